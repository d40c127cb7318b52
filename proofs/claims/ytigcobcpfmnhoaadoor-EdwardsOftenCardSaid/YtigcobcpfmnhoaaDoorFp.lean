/- The walk of field.power: squares and products by the bits of 2^n - less. -/
import Derived.Test.YtigcobcpfmnhoaaDoorFw4
import Derived.Test.YtigcobcpfmnhoaaDoorFp0
namespace Go.Proofs.YtigcobcpfmnhoaaDoor
open Go.RowKit

theorem and1 (x : Nat) (h : x < 64) : (bits .and .u64 (x : Int) 1 == 1) = Nat.beq (x % 2) 1 := by
  have e : bits .and .u64 (x : Int) 1 = ((x % 2 : Nat) : Int) := by
    have := u64_and_nat x 1 (by omega) (by omega)
    rw [nat_mask1] at this
    exact this
  rw [e]
  have : x % 2 = 0 ∨ x % 2 = 1 := by omega
  rcases this with h | h <;> rw [h] <;> rfl

set_option maxRecDepth 20000 in
set_option maxHeartbeats 400000 in
theorem bit_c (g : Nat) (i L : Nat) (h1 : 1 ≤ L) (h2 : L ≤ 31) (w : World) (hc : w.cell? ⟨g, 0, none⟩ = some (.int .u64 L)) :
    Calls Tryd.prog 92 #[.int .i64 i, .pointer (some ⟨g, 0, none⟩)] w fun e w' => e = .returned (.bool (Fe.bitOf L i)) ∧ w = w' := by
  by_cases h : 6 ≤ i
  · have hb := Lib.hid (Fe.bitOf_hi L i h)
    go_enter Tryd.func92, Tryd.ntmps92
    go_wp2
    go_ret
    exact ⟨by rw [hb.out]; rfl, rfl⟩
  have hb := Lib.hid (Fe.bitOf_lo L i h1 h2 (by omega))
  have hi : i = 0 ∨ i = 1 ∨ i = 2 ∨ i = 3 ∨ i = 4 ∨ i = 5 := by omega
  have hw : IntKind.u64.wrap (64 - (L : Int)) = 64 - (L : Int) := by rw [IntKind.wrap_u64]; omega
  have hx := Lib.hid (show (64 : Int) - (L : Int) = ((64 - L : Nat) : Int) by omega)
  have hL := Lib.hid h2
  rcases hi with rfl | rfl | rfl | rfl | rfl | rfl
  all_goals
    go_enter Tryd.func92, Tryd.ntmps92
    go_wp2
    go_ret
    refine ⟨?_, rfl⟩
    rw [hb.out]
    show Ending.returned (.bool (bits .and .u64 _ 1 == 1)) = _
    rw [hx.out]
    first
      | (rw [and1 (64 - L) (by omega)]; simp)
      | (rw [show ((64 - L : Nat) : Int) / 2 = (((64 - L) / 2 : Nat) : Int) from rfl, and1 _ (by omega)])
      | (rw [show ((64 - L : Nat) : Int) / 4 = (((64 - L) / 4 : Nat) : Int) from rfl, and1 _ (by omega)])
      | (rw [show ((64 - L : Nat) : Int) / 8 = (((64 - L) / 8 : Nat) : Int) from rfl, and1 _ (by omega)])
      | (rw [show ((64 - L : Nat) : Int) / 16 = (((64 - L) / 16 : Nat) : Int) from rfl, and1 _ (by omega)])
      | (rw [show ((64 - L : Nat) : Int) / 32 = (((64 - L) / 32 : Nat) : Int) from rfl, and1 _ (by omega)])

/-- the blocks of power: the element, what has been reckoned, the number, the result's -/
def PwI (a x : Fe.E) (L B : Nat) (w0 wr : World) : Prop := Blk wr B 28 #[.int .u64 a.a0, .int .u64 a.a1, .int .u64 a.a2, .int .u64 a.a3, .int .u64 a.a4] ∧ Blk wr (B + 1 + 1 + 1 + 1) 28 #[.int .u64 x.a0, .int .u64 x.a1, .int .u64 x.a2, .int .u64 x.a3, .int .u64 x.a4] ∧ Blk wr (B + 1) 26 #[.int .u64 L] ∧ Blk wr (B + 1 + 1) 28 #[.int .u64 0, .int .u64 0, .int .u64 0, .int .u64 0, .int .u64 0] ∧ Below B w0 wr

set_option maxRecDepth 20000 in
set_option maxHeartbeats 400000 in
theorem one_x (w : World) : Calls Tryd.prog 57 #[] w fun e w' => e = .returned (.agg #[.int .u64 1, .int .u64 0, .int .u64 0, .int .u64 0, .int .u64 0]) ∧ w' = w.alloc (.cells #[.int .u64 1, .int .u64 0, .int .u64 0, .int .u64 0, .int .u64 0] 28) := by
  go_enter Tryd.func57, Tryd.ntmps57
  go_wp2
  go_returns
  exact ⟨rfl, rfl⟩

/-- five cells stored -/
def set5 (w : World) (g : Nat) (y : Fe.E) : World := ((((w.setCell ⟨g, 0, none⟩ (.int .u64 y.a0)).setCell ⟨g, 1, none⟩ (.int .u64 y.a1)).setCell ⟨g, 2, none⟩ (.int .u64 y.a2)).setCell ⟨g, 3, none⟩ (.int .u64 y.a3)).setCell ⟨g, 4, none⟩ (.int .u64 y.a4)
theorem set5_far {w : World} {g h : Nat} {t : TypeId} {cs : Array Value} (hb : Blk w h t cs) (hne : h ≠ g) (y : Fe.E) : Blk (set5 w g y) h t cs :=
  ((((hb.far (p := ⟨g, 0, none⟩) hne _).far (p := ⟨g, 1, none⟩) hne _).far (p := ⟨g, 2, none⟩) hne _).far (p := ⟨g, 3, none⟩) hne _).far (p := ⟨g, 4, none⟩) hne _
theorem set5_same {w : World} {g : Nat} {t : TypeId} {x0 x1 x2 x3 x4 : Value} (hb : Blk w g t #[x0, x1, x2, x3, x4]) (y : Fe.E) : Blk (set5 w g y) g t #[.int .u64 y.a0, .int .u64 y.a1, .int .u64 y.a2, .int .u64 y.a3, .int .u64 y.a4] :=
  ((((hb.set_ 0 _).set_ 1 _).set_ 2 _).set_ 3 _).set_ 4 _
theorem set5_below {w0 w : World} {B g : Nat} (hb : Below B w0 w) (hg : B ≤ g) (y : Fe.E) : Below B w0 (set5 w g y) :=
  ((((hb.setCell (p := ⟨g, 0, none⟩) hg _).setCell (p := ⟨g, 1, none⟩) hg _).setCell (p := ⟨g, 2, none⟩) hg _).setCell (p := ⟨g, 3, none⟩) hg _).setCell (p := ⟨g, 4, none⟩) hg _

theorem pwI_step {a x : Fe.E} {L B : Nat} {w0 wr w2 : World} (h : PwI a x L B w0 wr) (hb : Below wr.heap.size wr w2) (y : Fe.E) : PwI a y L B w0 (set5 w2 (B + 1 + 1 + 1 + 1) y) := by
  obtain ⟨hA, hO, hC, hR, hb0⟩ := h
  have hl := hO.lt
  exact ⟨set5_far (hA.below hb) (by omega) y, set5_same (hO.below hb) y, set5_far (hC.below hb) (by omega) y, set5_far (hR.below hb) (by omega) y, set5_below (hb0.trans (hb.mono (by omega))) (by omega) y⟩

theorem pwI_cells {a x : Fe.E} {L B : Nat} {w0 wr w2 : World} (h : PwI a x L B w0 wr) (hb : Below wr.heap.size wr w2) : (∀ j, w2.frozen? ⟨B + 1 + 1 + 1 + 1, j, none⟩ = false) ∧
    w2.cell? ⟨B + 1 + 1 + 1 + 1, 0, none⟩ = some (.int .u64 x.a0) ∧ w2.cell? ⟨B + 1 + 1 + 1 + 1, 1, none⟩ = some (.int .u64 x.a1) ∧ w2.cell? ⟨B + 1 + 1 + 1 + 1, 2, none⟩ = some (.int .u64 x.a2) ∧ w2.cell? ⟨B + 1 + 1 + 1 + 1, 3, none⟩ = some (.int .u64 x.a3) ∧ w2.cell? ⟨B + 1 + 1 + 1 + 1, 4, none⟩ = some (.int .u64 x.a4) :=
  ⟨fun j => (h.2.1.below hb).frozen j, blk5 (h.2.1.below hb)⟩

theorem calls_at {P : Program} {f : FuncId} {args : Array Value} {W : World} {R : Ending → World → Prop} (h : ∀ W0, W0 = W → Calls P f args W0 R) : Calls P f args W R := h W rfl

set_option maxRecDepth 20000 in
set_option maxHeartbeats 1000000 in
theorem power_E (a : Fe.E) (hw : Fe.W a) (n L : Nat) (hn : n ≤ 1000) (h1 : 1 ≤ L) (h2 : L ≤ 31) (w : World) :
    Calls Tryd.prog 79 #[.agg #[.int .u64 a.a0, .int .u64 a.a1, .int .u64 a.a2, .int .u64 a.a3, .int .u64 a.a4], .int .i64 n, .int .u64 L] w (PostE (Fe.pw a n L n) w) := by
  have hmf : ∀ (fn : Fn) (first cap : Array Value) (w : World), (Instr.makeFunc fn first cap).run Tryd.prog w = .ok (.func fn first cap) w := fun _ _ _ _ => rfl
  go_enter Tryd.func79, Tryd.ntmps79
  go_wp2_with fail
  refine (one_x _).mono ?_
  rintro e w1 ⟨rfl, rfl⟩
  go_wp2
  go_loopw [9] (fun i wr => ∃ m : Nat, m ≤ n ∧ i = .int .i64 ((m : Int) - 1) ∧ PwI a (Fe.pw a n L (n - m)) L w.heap.size w wr) (fun i _ => (intOf i + 1).toNat)
  case atStart =>
    refine ⟨n, Nat.le_refl _, rfl, ?_, ?_, ?_, ?_, ?_⟩
    · exact ((((Blk.new _ _ _).alloc _).alloc _).alloc _).alloc _
    · rw [Nat.sub_self]; exact blk_at (by simp) (Blk.new _ _ _)
    · exact blk_at (by simp) ((((Blk.new _ _ _).alloc _).alloc _).alloc _)
    · exact blk_at (by simp) (((Blk.new _ _ _).alloc _).alloc _)
    go_grown
  case round =>
    obtain ⟨m, hm, hi, hI⟩ := hrel
    by_cases h0 : m = 0
    · subst h0
      have hi' : u9 = .int .i64 (-1) := hi
      subst hi'
      obtain ⟨hA, hO, hC, hR, hb0⟩ := hI
      obtain ⟨c0, c1, c2, c3, c4⟩ := blk5 hO
      obtain ⟨r0, r1, r2, r3, r4⟩ := blk5 hR
      have fz := fun j => hR.frozen j
      rw [Nat.sub_zero] at c0 c1 c2 c3 c4
      clear hm hi
      go_wp2
      refine bodyPost_ret (v := .agg #[.int .u64 (Fe.pw a n L n).a0, .int .u64 (Fe.pw a n L n).a1, .int .u64 (Fe.pw a n L n).a2, .int .u64 (Fe.pw a n L n).a3, .int .u64 (Fe.pw a n L n).a4]) (by simp [results, Tryd.results79, go_sem, r0, r1, r2, r3, r4]) rfl ?_
      refine ⟨rfl, ?_⟩
      clear c0 c1 c2 c3 c4 r0 r1 r2 r3 r4 fz
      go_grown
    obtain ⟨j, rfl⟩ : ∃ j, m = j + 1 := ⟨m - 1, by omega⟩
    have hi' : u9 = .int .i64 (j : Int) := by rw [hi]; congr 1; omega
    subst hi'
    have hj0 : (0 : Int) ≤ (j : Int) := by omega
    have hj1 : (j : Int) ≤ 1000 := by omega
    have hxw : Fe.W (Fe.pw a n L (n - (j + 1))) := Fe.pw_w a n L _
    have ek : n - j = (n - (j + 1)) + 1 := by omega
    have ei : n - 1 - (n - (j + 1)) = j := by omega
    have hnext := Lib.hid (show Fe.pw a n L (n - j) = if Fe.bitOf L j = true then Fe.mulE (Fe.mulE (Fe.pw a n L (n - (j + 1))) (Fe.pw a n L (n - (j + 1)))) a else Fe.mulE (Fe.pw a n L (n - (j + 1))) (Fe.pw a n L (n - (j + 1))) by rw [ek, Fe.pw, ei])
    clear ek ei hi h0
    generalize Fe.pw a n L (n - (j + 1)) = x at *
    have hI0 := hI
    obtain ⟨hA, hO, hC, hR, hb0⟩ := hI
    obtain ⟨c0, c1, c2, c3, c4⟩ := blk5 hO
    go_wp2_with fail
    refine (square_E x hxw _).mono ?_
    rintro e w2 ⟨rfl, hb2⟩
    have hI2 := pwI_step hI0 hb2 (Fe.mulE x x)
    obtain ⟨fz, d0, d1, d2, d3, d4⟩ := pwI_cells hI0 hb2
    clear c0 c1 c2 c3 c4 hA hO hC hR hb0 hI0 hb2
    go_wp2_with fail
    refine calls_at (fun W0 hW => ?_)
    have hI3 : PwI a (Fe.mulE x x) L w.heap.size w W0 := by rw [hW]; exact hI2
    clear hI2 hW fz d0 d1 d2 d3 d4
    refine (bit_c _ _ _ h1 h2 _ (hI3.2.2.1.cell 0)).mono ?_
    rintro e w3 ⟨rfl, rfl⟩
    by_cases hbit : Fe.bitOf L j = true
    · have hnx := hnext.out
      rw [if_pos hbit] at hnx
      have hnx := Lib.hid hnx
      clear hnext
      obtain ⟨hA, hO, hC, hR, hb0⟩ := hI3
      obtain ⟨c0, c1, c2, c3, c4⟩ := blk5 hO
      obtain ⟨a0, a1, a2, a3, a4⟩ := blk5 hA
      have hI4 : PwI a (Fe.mulE x x) L w.heap.size w W0 := ⟨hA, hO, hC, hR, hb0⟩
      go_wp2_with fail
      refine (mul_E (Fe.mulE x x) a (Fe.mulE_w _ _) hw _).mono ?_
      rintro e w4 ⟨rfl, hb4⟩
      have hI5 := pwI_step hI4 hb4 (Fe.mulE (Fe.mulE x x) a)
      obtain ⟨fz, d0, d1, d2, d3, d4⟩ := pwI_cells hI4 hb4
      clear c0 c1 c2 c3 c4 hA hO hC hR hb0 hI4 hb4 a0 a1 a2 a3 a4
      go_wp2
      exact ⟨⟨j, by omega, rfl, by rw [hnx.out]; exact hI5⟩, by simp [intOf]⟩
    have hnx := hnext.out
    rw [if_neg hbit] at hnx
    have hnx := Lib.hid hnx
    clear hnext
    have hbit' : Fe.bitOf L j = false := by simpa using hbit
    clear hbit
    go_wp2
    exact ⟨⟨j, by omega, rfl, by rw [hnx.out]; exact hI3⟩, by simp [intOf]⟩
end Go.Proofs.YtigcobcpfmnhoaaDoor
