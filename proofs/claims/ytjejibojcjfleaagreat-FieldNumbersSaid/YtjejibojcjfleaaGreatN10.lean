/- The walk of is: an element stands for its number. -/
import Derived.Test.YtjejibojcjfleaaGreatN9
import Derived.Test.YtjejibojcjfleaaGreatBy
import Derived.Test.YtjejibojcjfleaaGreatRp
namespace Dg
open Fe
theorem dig_bit (n b q r : Nat) (hr : r < b) : n / 2 ^ (b * q) % 2 ^ b / 2 ^ r % 2 = n / 2 ^ (b * q + r) % 2 := by
  rw [Nat.pow_add, ← Nat.div_div_eq_div_mul]
  generalize n / 2 ^ (b * q) = y
  have hb : 2 ^ b = 2 ^ r * (2 ^ (b - 1 - r) * 2) := by
    rw [← Nat.pow_succ, ← Nat.pow_add, show r + (b - 1 - r + 1) = b by omega]
  rw [hb, Nat.mod_mul_right_div_self, Nat.mul_comm (2 ^ (b - 1 - r)) 2, Nat.mod_mul_right_mod]
theorem bits_ext {x y : Int} (hx : 0 ≤ x ∧ x < 256) (hy : 0 ≤ y ∧ y < 256) (h : ∀ r, r < 8 → x / 2 ^ r % 2 = y / 2 ^ r % 2) : x = y := by
  have h0 := h 0 (by decide); have h1 := h 1 (by decide); have h2 := h 2 (by decide); have h3 := h 3 (by decide)
  have h4 := h 4 (by decide); have h5 := h 5 (by decide); have h6 := h 6 (by decide); have h7 := h 7 (by decide)
  simp only [Int.reducePow] at *
  omega
theorem limb_n {y : E} {n : Nat} (hd : D y) (hv : val y = n) : ∀ i, i < 5 → limb y i = ((n / 2 ^ (51 * i) % 2 ^ 51 : Nat) : Int) := by
  intro i hi
  simp only [D, val] at hd hv
  have : i = 0 ∨ i = 1 ∨ i = 2 ∨ i = 3 ∨ i = 4 := by omega
  rcases this with rfl | rfl | rfl | rfl | rfl <;> simp only [limb, Nat.reduceMul, Nat.reducePow] <;> omega
theorem bit_n {y : E} {n : Nat} (hd : D y) (hv : val y = n) (m : Nat) (hm : m < 255) : bit y m = ((n / 2 ^ m % 2 : Nat) : Int) := by
  unfold bit
  rw [limb_n hd hv _ (by omega)]
  have h := dig_bit n 51 (m / 51) (m % 51) (by omega)
  rw [show 51 * (m / 51) + m % 51 = m by omega] at h
  rw [← h]
  simp only [Int.natCast_emod, Int.natCast_ediv, Int.natCast_pow]
  rfl
theorem put_rb {e : E} (hR : R e) : ∀ j, j < 32 → pb (canon e) 255 j = rb (nv e) j := by
  intro j hj
  have hd := canon_d e
  have hv := val_canon hR
  have hlt := nv_lt e
  have h1 : 0 ≤ rb (nv e) j ∧ rb (nv e) j < 256 := by unfold rb; omega
  refine bits_ext (pb_range _ _) h1 fun r hr => ?_
  have e2 : rb (nv e) j / 2 ^ r % 2 = ((nv e / 2 ^ (8 * j + r) % 2 : Nat) : Int) := by
    rw [← dig_bit (nv e) 8 j r hr]
    unfold rb
    rw [show (256 : Nat) ^ j = 2 ^ (8 * j) by rw [Nat.pow_mul]]
    simp only [Int.natCast_emod, Int.natCast_ediv, Int.natCast_pow]
    rfl
  rw [e2]
  by_cases hm : 8 * j + r < 255
  · have h3 := pb_bit (canon e) 255 (8 * j + r) hm
    rw [show (8 * j + r) / 8 = j by omega, show (8 * j + r) % 8 = r by omega] at h3
    rw [h3, bit_n hd hv _ hm]
  · have hj31 : j = 31 := by omega
    have hr7 : r = 7 := by omega
    subst hj31 hr7
    have hl := pb_lt (canon e) 255 31
    have h4 : (2 : Int) ^ (min 8 (255 - 8 * 31)) = 128 := by rw [show min 8 (255 - 8 * 31) = 7 from rfl]; rfl
    rw [h4] at hl
    have h5 : pb (canon e) 255 31 / 2 ^ 7 = 0 := Int.ediv_eq_zero_of_lt hl.1 hl.2
    have h6 : nv e / 2 ^ (8 * 31 + 7) = 0 := Nat.div_eq_of_lt (Nat.lt_of_lt_of_le hlt (by unfold P; decide))
    rw [h5, h6]
    rfl
end Dg
namespace Go.Proofs.YtjejibojcjfleaaGreat
open Go.RowKit
theorem E_under : Tryz.prog.underlying 27 = some (.array 5 25) := by kernel_rfl
theorem E_size : (Tryz.prog.info? 27).map (·.size) = some 5 := by kernel_rfl
section
variable {ops : Array Oper} {rest : List Oper} {o : Oper} {a : Act} {w : World} {Q : Exit → Act → World → Prop}
theorem ldE (hgd : o.guard = none) {x : Operand} (ho : o.op = .load 27 x) {g : Nat} (hx : a.eval x = .pointer (some ⟨g, 0, none⟩)) {e : Fe.E} (hg : Blk w g 27 (ev e)) (h : wpList Tryz.prog ops Q rest (a.put o.dst (.agg (ev e))) w) : wpList Tryz.prog ops Q (o :: rest) a w :=
  wpList_load_row hgd 27 x ho g hx 27 (ev e) (0, 0) _ hg E_under rfl E_size h
theorem stE (hgd : o.guard = none) {x y : Operand} (ho : o.op = .store 27 x y) {g : Nat} (hx : a.eval x = .pointer (some ⟨g, 0, none⟩)) {e : Fe.E} (hy : a.eval y = .agg (ev e)) {old : Fe.E} (hg : Blk w g 27 (ev old))
    (h : ∀ w', Blk w' g 27 (ev e) → w.grownBy w' (some g) → w'.heap.size = w.heap.size → wpList Tryz.prog ops Q rest (a.put o.dst undef) w') : wpList Tryz.prog ops Q (o :: rest) a w :=
  wpList_store_blk hgd 27 x y ho g 27 (ev old) (ev e) hx hy hg rfl E_size (by kernel_rfl) h
end
def lst16 (f : Nat → Int) : List Int := [f 0, f 1, f 2, f 3, f 4, f 5, f 6, f 7, f 8, f 9, f 10, f 11, f 12, f 13, f 14, f 15]
def eqN (f g : Nat → Int) : Bool := decide (lst16 f = lst16 g)
theorem run_eql_N (f g : Nat → Int) (w : World) : (binOp .eql 31 (.agg (av f)) (.agg (av g))).run Tryz.prog w = .ok (.bool (eqN f g)) w :=
  run_eql_ints w 16 N_under u64_under u64_size (lst16 f) (lst16 g) rfl rfl
theorem run_neq_N (f g : Nat → Int) (w : World) : (binOp .neq 31 (.agg (av f)) (.agg (av g))).run Tryz.prog w = .ok (.bool (!eqN f g)) w :=
  run_neq_ints w 16 N_under u64_under u64_size (lst16 f) (lst16 g) rfl rfl
theorem eqN_refl (f : Nat → Int) : eqN f f = true := decide_eq_true rfl
theorem eqN_dec {x y : Nat} (hx : x < Fe.P) (hy : y < Fe.P) : eqN (Dg.dg x) (Dg.dg y) = decide (x = y) := by
  unfold eqN
  by_cases h : x = y
  · subst h
    rw [decide_eq_true rfl, decide_eq_true rfl]
  · rw [decide_eq_false h]
    refine decide_eq_false fun hl => h ?_
    have h1 : ∀ j, j < 16 → Dg.dg x j = Dg.dg y j := fun j hj => by
      have := congrArg (·[j]?) hl
      rcases lt16 hj with rfl | rfl | rfl | rfl | rfl | rfl | rfl | rfl | rfl | rfl | rfl | rfl | rfl | rfl | rfl | rfl <;> simpa [lst16] using this
    have h2 := Dg.sm_congr 16 h1
    rw [Dg.smP hx, Dg.smP hy] at h2
    omega
def RbP (b : Nat → Int) : Value → World → Prop := fun v w => ∃ g cap, v = .slice (some ⟨g, 0, none⟩) 32 cap ∧ g < w.heap.size ∧ ∀ j, j < 32 → w.cell? ⟨g, 0 + j, none⟩ = some (.int .u8 (b j))
theorem sta_rb (b : Nat → Int) : Sta (RbP b) := fun _ _ _ ⟨g, cap, h1, h2, h3⟩ hb => ⟨g, cap, h1, Nat.lt_of_lt_of_le h2 hb.size, fun j hj => (hb.cell (p := ⟨g, 0 + j, none⟩) h2).trans (h3 j hj)⟩
def risL (e : Fe.E) (A bm b2 : Nat → Int) : List (Value → World → Prop) := [
  Eq1 (.agg (ev e)),
  Eq1 (.bool true),
  Eq1 (.bool true),
  Eq1 (.agg (ev e)),
  Eq1 (.agg (av A)),
  Eq1 (.agg (av A)),
  Eq1 (.bool true),
  Eq1 (.bool true),
  Eq1 (.bool true),
  Eq1 (.agg (ev e)),
  SlB bm,
  Eq1 (.agg (av A)),
  RbP b2,
  Eq1 (.bool true),
  Eq1 (.bool true),
  Eq1 (.bool true)]
theorem risS (e : Fe.E) (A bm b2 : Nat → Int) : ∀ j x' q q', (risL e A bm b2).getD j (fun _ _ => True) x' q → Below q.heap.size q q' → (risL e A bm b2).getD j (fun _ _ => True) x' q' := by
  refine sta_all _ ?_
  simp only [risL, List.mem_cons, forall_eq_or_imp, List.not_mem_nil, false_implies, implies_true, and_true]
  exact ⟨sta_eq _, sta_eq _, sta_eq _, sta_eq _, sta_eq _, sta_eq _, sta_eq _, sta_eq _, sta_eq _, sta_eq _, sta_sl _, sta_eq _, sta_rb _, sta_eq _, sta_eq _, sta_eq _⟩

set_option maxRecDepth 20000 in
set_option maxHeartbeats 2000000 in
theorem is_g (e : Fe.E) (A bm b2 : Nat → Int) (cR : ∀ w, Calls Tryz.prog 28 #[.agg (ev e)] w (PostV (.bool true) w)) (cF : ∀ w, Calls Tryz.prog 29 #[.agg (ev e)] w (PostN A w))
    (cput : ∀ w, Calls Tryz.prog 12 #[.agg (ev e)] w (PostB bm w)) (cby : ∀ w, Calls Tryz.prog 30 #[.agg (av A)] w fun e w' => ∃ g cap, e = .returned (.slice (some ⟨g, 0, none⟩) 32 cap) ∧ g < w'.heap.size ∧ (∀ j, j < 32 → w'.cell? ⟨g, 0 + j, none⟩ = some (.int .u8 (b2 j))) ∧ Below w.heap.size w w')
    (hs : ∀ j, j < 32 → bm j = b2 j) (w : World) : Calls Tryz.prog 10 #[.agg (ev e), .agg (av A)] w (PostV (.bool true) w) := by
  have heq := fun w => run_eql_N A A w
  rw [eqN_refl] at heq
  have hsame : ∀ g1 g2 c2 (w1 : World), Blk w1 g1 5 (byV 32 bm) → g2 < w1.heap.size → (∀ j, j < 32 → w1.cell? ⟨g2, 0 + j, none⟩ = some (.int .u8 (b2 j))) → Calls Tryz.prog 11 #[.slice (some ⟨g1, 0, none⟩) 32 32, .slice (some ⟨g2, 0, none⟩) 32 c2] w1 (PostV (.bool true) w1) := fun g1 g2 c2 w1 h1 h2 h3 => by
    have h := sameBytes_c g1 0 32 32 g2 0 c2 32 bm b2 (by decide) (by decide) w1 (byV_cell h1) h3 h1.lt h2
    rw [show sameB 32 32 bm b2 = true from decide_eq_true ⟨rfl, hs⟩] at h
    exact h
  clear hs
  replace cR := Lib.hid cR
  replace cF := Lib.hid cF
  replace cput := Lib.hid cput
  replace cby := Lib.hid cby
  replace heq := Lib.hid heq
  replace hsame := Lib.hid hsame
  go_enter Tryz.func10, Tryz.ntmps10
  go_wp2
  refine at_world (fun W0 hW => ?_)
  have hE : Blk W0 (w.heap.size) 27 (ev e) := by rw [hW]; exact (Blk.new _ _ _).alloc _
  have hA : Blk W0 (w.heap.size + 1) 31 (av A) := by rw [hW]; exact blk_at (by simp) (Blk.new _ _ _)
  have hb0 : Below w.heap.size w W0 := by rw [hW]; go_grown
  clear hW
  refine wp_region_grow2 16 (fun k => (Nat.ble 4 k && Nat.ble k 19)) _ [] (fun j x' q => (risL e A bm b2).getD j (fun _ _ => True) x' q) (fun _ => false) (fun f => #[.agg (ev e), .agg (av A), .pointer (some ⟨w.heap.size, 0, none⟩), .pointer (some ⟨w.heap.size + 1, 0, none⟩), f 4, f 5, f 6, f 7, f 8, f 9, f 10, f 11, f 12, f 13, f 14, f 15, f 16, f 17, f 18, f 19]) (fun f => rfl) (by kernel_rfl) (by kernel_rfl) (by kernel_rfl) (by kernel_rfl) (by kernel_rfl) (risS _ _ _ _) (fun _ _ _ h => by cases h) ?_ ?_
  · refine steps2_cons ?_ ?_
    · intro f w1 hb hd Q hK
      clear hd
      have hK := Lib.hid hK
      refine ldE rfl rfl rfl (hE.below hb) ?_
      go_wp2
      exact hK.out _ _ rfl (Below.refl _ _) (fun h => by cases h)
    refine steps2_cons ?_ ?_
    · intro f w1 hb hd Q hK
      have e5 : f 5 = .agg (ev e) := hd.1 rfl
      clear hd
      simp only [e5] at hK
      have hK := Lib.hid hK
      go_wp2_with fail
      refine (cR.out _).mono ?_
      rintro e w2 ⟨rfl, hb2⟩
      go_wp2
      exact hK.out _ _ rfl hb2 (fun h => by cases h)
    refine steps2_cons ?_ ?_
    · intro f w1 hb hd Q hK
      have e6 : f 6 = .bool true := hd.1 rfl
      clear hd
      simp only [e6] at hK
      have hK := Lib.hid hK
      go_wp2
      exact hK.out _ _ rfl (Below.refl _ _) (fun h => by cases h)
    refine steps2_cons ?_ ?_
    · intro f w1 hb hd Q hK
      have e7 : f 7 = .bool true := hd.1 rfl
      clear hd
      simp only [e7] at hK
      have hK := Lib.hid hK
      obtain ⟨c0, c1, c2, c3, c4⟩ := blk5 (hE.below hb)
      go_wp2
      exact hK.out _ _ rfl (Below.refl _ _) (fun h => by cases h)
    refine steps2_cons ?_ ?_
    · intro f w1 hb hd Q hK
      have e8 : f 8 = .agg (ev e) := hd.1 rfl
      have e7 : f 7 = .bool true := hd.2.1 rfl
      clear hd
      simp only [e8, e7] at hK
      have hK := Lib.hid hK
      go_wp2_with fail
      refine (cF.out _).mono ?_
      rintro e w2 ⟨rfl, hb2⟩
      go_wp2
      exact hK.out _ _ rfl hb2 (fun h => by cases h)
    refine steps2_cons ?_ ?_
    · intro f w1 hb hd Q hK
      have e7 : f 7 = .bool true := hd.1 rfl
      clear hd
      simp only [e7] at hK
      have hK := Lib.hid hK
      obtain ⟨c0, c1, c2, c3, c4, c5, c6, c7, c8, c9, c10, c11, c12, c13, c14, c15⟩ := blk16 (hA.below hb)
      go_wp2
      exact hK.out _ _ rfl (Below.refl _ _) (fun h => by cases h)
    refine steps2_cons ?_ ?_
    · intro f w1 hb hd Q hK
      have e9 : f 9 = .agg (av A) := hd.1 rfl
      have e10 : f 10 = .agg (av A) := hd.2.1 rfl
      have e7 : f 7 = .bool true := hd.2.2.1 rfl
      clear hd
      simp only [e9, e10, e7] at hK
      have hK := Lib.hid hK
      have hq := heq.out
      go_wp2
      exact hK.out _ _ rfl (Below.refl _ _) (fun h => by cases h)
    refine steps2_cons ?_ ?_
    · intro f w1 hb hd Q hK
      have e7 : f 7 = .bool true := hd.1 rfl
      have e11 : f 11 = .bool true := hd.2.1 rfl
      clear hd
      simp only [e7, e11] at hK
      have hK := Lib.hid hK
      go_wp2
      exact hK.out _ _ rfl (Below.refl _ _) (fun h => by cases h)
    refine steps2_cons ?_ ?_
    · intro f w1 hb hd Q hK
      have e12 : f 12 = .bool true := hd.1 rfl
      clear hd
      simp only [e12] at hK
      have hK := Lib.hid hK
      go_wp2
      exact hK.out _ _ rfl (Below.refl _ _) (fun h => by cases h)
    refine steps2_cons ?_ ?_
    · intro f w1 hb hd Q hK
      have e13 : f 13 = .bool true := hd.1 rfl
      clear hd
      simp only [e13] at hK
      have hK := Lib.hid hK
      obtain ⟨c0, c1, c2, c3, c4⟩ := blk5 (hE.below hb)
      go_wp2
      exact hK.out _ _ rfl (Below.refl _ _) (fun h => by cases h)
    refine steps2_cons ?_ ?_
    · intro f w1 hb hd Q hK
      have e14 : f 14 = .agg (ev e) := hd.1 rfl
      have e13 : f 13 = .bool true := hd.2.1 rfl
      clear hd
      simp only [e14, e13] at hK
      have hK := Lib.hid hK
      go_wp2_with fail
      refine (cput.out _).mono ?_
      rintro e w2 ⟨g, -, rfl, hG, hb2⟩
      go_wp2
      exact hK.out _ _ ⟨g, rfl, hG⟩ hb2 (fun h => by cases h)
    refine steps2_cons ?_ ?_
    · intro f w1 hb hd Q hK
      have e13 : f 13 = .bool true := hd.1 rfl
      clear hd
      simp only [e13] at hK
      have hK := Lib.hid hK
      obtain ⟨c0, c1, c2, c3, c4, c5, c6, c7, c8, c9, c10, c11, c12, c13, c14, c15⟩ := blk16 (hA.below hb)
      go_wp2
      exact hK.out _ _ rfl (Below.refl _ _) (fun h => by cases h)
    refine steps2_cons ?_ ?_
    · intro f w1 hb hd Q hK
      have e16 : f 16 = .agg (av A) := hd.1 rfl
      have e13 : f 13 = .bool true := hd.2.2.1 rfl
      clear hd
      simp only [e16, e13] at hK
      have hK := Lib.hid hK
      go_wp2_with fail
      refine (cby.out _).mono ?_
      rintro e w2 ⟨g, cap, rfl, hlt, hG, hb2⟩
      go_wp2
      exact hK.out _ _ ⟨g, cap, rfl, hlt, hG⟩ hb2 (fun h => by cases h)
    refine steps2_cons ?_ ?_
    · intro f w1 hb hd Q hK
      obtain ⟨g15, e15, bk15⟩ := (hd.1 rfl : SlB bm (f 15) w1)
      obtain ⟨g17, cp17, e17, lt17, bk17⟩ := (hd.2.1 rfl : RbP b2 (f 17) w1)
      have e13 : f 13 = .bool true := hd.2.2.2.1 rfl
      clear hd
      simp only [e15, e17, e13] at hK
      have hK := Lib.hid hK
      have hsm := hsame.out g15 g17 cp17 w1 bk15 lt17 bk17
      clear bk15 bk17
      go_wp2_with fail
      refine hsm.mono ?_
      rintro e w2 ⟨rfl, hb2⟩
      go_wp2
      exact hK.out _ _ rfl hb2 (fun h => by cases h)
    refine steps2_cons ?_ ?_
    · intro f w1 hb hd Q hK
      have e13 : f 13 = .bool true := hd.1 rfl
      have e18 : f 18 = .bool true := hd.2.1 rfl
      clear hd
      simp only [e13, e18] at hK
      have hK := Lib.hid hK
      go_wp2
      exact hK.out _ _ rfl (Below.refl _ _) (fun h => by cases h)
    refine steps2_cons ?_ ?_
    · intro f w1 hb hd Q hK
      have e19 : f 19 = .bool true := hd.1 rfl
      clear hd
      simp only [e19] at hK
      have hK := Lib.hid hK
      go_wp2
      exact hK.out _ _ rfl (Below.refl _ _) (fun h => by cases h)
    trivial
  · intro f w1 hb hf hne
    refine wpList_nil ?_
    have d4 : f 4 = .bool true := hf 15 _ _ (by decide) rfl rfl
    clear hf hne
    simp only [d4]
    go_wp2
    go_returns
    exact ⟨rfl, hb0.trans (hb.mono hb0.size)⟩
theorem is_c (e : Fe.E) (hR : Fe.R e) (n : Nat) (hn : Fe.nv e = n) (w : World) : Calls Tryz.prog 10 #[.agg (ev e), .agg (av (Dg.dg n))] w (PostV (.bool true) w) := by
  subst hn
  refine is_g e _ _ _ (fun w => ?_) (fun w => ?_) (fun w => put_B e hR.w w) (fun w => rBytes_c (Fe.nv e) w) (Dg.put_rb hR) w
  · exact rRight_t e.a0 e.a1 e.a2 e.a3 e.a4 hR w
  · exact rFrom_c e.a0 e.a1 e.a2 e.a3 e.a4 hR w
end Go.Proofs.YtjejibojcjfleaaGreat
