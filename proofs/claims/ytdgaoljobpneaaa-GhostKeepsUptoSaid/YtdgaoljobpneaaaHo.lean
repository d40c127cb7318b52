/- The walk of the ghost laws' awake. -/
import Derived.Test.YtdgaoljobpneaaaHn
namespace Go.Proofs.Ytdgaoljobpneaaa
open Go.RowKit
def dA : RecD := oneD 1 ⟨#[120]⟩
def dB : RecD := ⟨⟨#[107]⟩, 1, 1, 0, [], false, keyL ⟨#[120]⟩, [1]⟩
def dY : RecD := oneD 1 ⟨#[121]⟩
theorem br_dec {xs : List Int} (h : xs.all (fun x => decide (0 ≤ x ∧ x < 256)) = true) : BR xs := fun x hx => of_decide_eq_true (List.all_eq_true.1 h x hx)
theorem dA_ok : dA.ok := ⟨by decide, by decide, by decide, br_dec (by decide), br_dec (by decide)⟩
theorem dB_ok : dB.ok := ⟨by decide, by decide, by decide, br_dec (by decide), br_dec (by decide)⟩
theorem dY_ok : dY.ok := ⟨by decide, by decide, by decide, br_dec (by decide), br_dec (by decide)⟩
theorem rt_ok : (rootD 1).ok := ⟨by decide, by decide, br_dec (by decide), br_dec (by decide)⟩
theorem dA_ne : recT dA ≠ [] := by decide +kernel
theorem dAB : recT dA = recT dB := by decide +kernel
theorem dAY : recT dA ≠ recT dY := by decide +kernel
theorem puts_aa : putsT recT [] [dA, dA] = [dA] := by
  have h1 : putT recT [] dA = [dA] := by unfold putT; rw [if_neg (by rintro (h | h); exact dA_ne h; cases h)]; rfl
  have h2 : putT recT [dA] dA = [dA] := by unfold putT; rw [if_pos (.inr (by simp [hasT]))]
  show putT recT (putT recT [] dA) dA = _
  rw [h1, h2]
theorem has_b : hasT recT [dA] (recT dB) = true := by simp [hasT, dAB]
theorem has_y : hasT recT [dA] (recT dY) = false := by simp [hasT, dAY]
theorem has_0 (t : List Int) : hasT rootT [] t = false := rfl
theorem same_a : sameL sameRD [dA] [dA] = true := sameL_self fun a _ => sameRD_self a
/-- a row of records that is read -/
def RowV (L : List RecD) : Value → World → Prop := fun v w => ∃ p c, v = .slice p L.length c ∧ RecsF [] w p L
theorem sta_rowV (L : List RecD) : Sta (RowV L) := fun _ _ _ ⟨p, c, h1, h2⟩ hb => ⟨p, c, h1, h2.ext (fun _ _ h => h.ext (.below hb)) (.below hb)⟩
def RecW (r : RecD) : Value → World → Prop := fun v w => RecF [] w v r
theorem sta_recW (r : RecD) : Sta (RecW r) := fun _ _ _ h hb => h.ext (.below hb)
def RootW (r : RootD) : Value → World → Prop := fun v w => RootF [] w v r
theorem sta_rootW (r : RootD) : Sta (RootW r) := fun _ _ _ h hb => h.ext (.below hb)
def Sl0 : Value → World → Prop := fun v _ => ∃ p c, v = .slice p 0 c
theorem sta_sl0 : Sta Sl0 := fun _ _ _ h _ => h
theorem recs_one {w : World} {g : Nat} {v : Value} {r : RecD} {S : List Nat} (h : Blk w g 25 (cellsV v).toArray) (hv : RecF S w v r) (hg : g ∉ S) : RecsF S w (some ⟨g, 0, none⟩) [r] := fun _ => ⟨g, 0, rfl, h.lt, hg, fun i r' hr => by
  have hi : i = 0 := by have := (List.getElem?_eq_some_iff.1 hr).1; simp at this; omega
  subst hi
  obtain rfl : r = r' := by simpa using hr
  exact ⟨v, hv, fun j u hu => by rw [show 0 + 0 * 7 + j = j by omega, h.cell j]; simpa using hu⟩⟩
theorem recs_two {w : World} {g : Nat} {v : Value} {r : RecD} {S : List Nat} (h : Blk w g 25 (cellsV v ++ cellsV v).toArray) (hl : (cellsV v).length = 7) (hv : RecF S w v r) (hg : g ∉ S) : RecsF S w (some ⟨g, 0, none⟩) [r, r] := fun _ => ⟨g, 0, rfl, h.lt, hg, fun i r' hr => by
  have hi : i = 0 ∨ i = 1 := by have := (List.getElem?_eq_some_iff.1 hr).1; simp at this; omega
  obtain rfl : r = r' := by rcases hi with rfl | rfl <;> simpa using hr
  refine ⟨v, hv, fun j u hu => ?_⟩
  have hj := (List.getElem?_eq_some_iff.1 hu).1
  rw [Nat.zero_add, h.cell]
  rcases hi with rfl | rfl
  · rw [Nat.zero_mul, Nat.zero_add, List.getElem?_toArray, List.getElem?_append_left hj]; exact hu
  · rw [List.getElem?_toArray, List.getElem?_append_right (by omega), show 1 * 7 + j - (cellsV v).length = j by omega]; exact hu⟩
def aw28L (p1 : Option Addr) (c1 : Nat) (p2 : Option Addr) (c2 : Nat) (p3 : Option Addr) (c3 : Nat) (q1 : Option Addr) (d1 : Nat) (q2 : Option Addr) (d2 : Nat) (q3 : Option Addr) (gb : Nat) : List (Value → World → Prop) := [
  Eq1 (.pointer (some ⟨gb, 0, none⟩)),
  RowV [dA],
  Eq1 (.agg #[.string ⟨#[107]⟩, .int .i64 1, .int .i64 1, .slice p1 0 c1, .bool false, .slice p2 1 c2, .slice p3 0 c3]),
  RowV [dA],
  Eq1 (.bool true),
  Eq1 (.bool true),
  Eq1 (.pointer (some ⟨gb, 0, none⟩)),
  Eq1 (.agg #[.string ⟨#[107]⟩, .int .i64 1, .int .i64 1, .slice q1 0 d1, .bool false, .slice q2 1 d2, .slice q3 1 1]),
  Eq1 (.bool true),
  Eq1 (.bool true),
  Eq1 (.bool true),
  Eq1 (.pointer (some ⟨gb, 0, none⟩)),
  RecW dY,
  Eq1 (.bool false),
  Eq1 (.bool true),
  Eq1 (.bool true),
  Eq1 (.bool true),
  Eq1 (.pointer (some ⟨gb, 0, none⟩)),
  RootW (rootD 1),
  Eq1 (.bool false),
  Eq1 (.bool true),
  Eq1 (.bool true),
  Eq1 (.bool true),
  Eq1 (.pointer (some ⟨gb, 0, none⟩)),
  Sl0,
  Eq1 (.int .i64 0),
  Eq1 (.bool true),
  Eq1 (.bool true),
  Eq1 (.bool true)]
theorem aw28S (p1 : Option Addr) (c1 : Nat) (p2 : Option Addr) (c2 : Nat) (p3 : Option Addr) (c3 : Nat) (q1 : Option Addr) (d1 : Nat) (q2 : Option Addr) (d2 : Nat) (q3 : Option Addr) (gb : Nat) : ∀ j x' q q', (aw28L p1 c1 p2 c2 p3 c3 q1 d1 q2 d2 q3 gb).getD j (fun _ _ => True) x' q → Below q.heap.size q q' → (aw28L p1 c1 p2 c2 p3 c3 q1 d1 q2 d2 q3 gb).getD j (fun _ _ => True) x' q' := by
  refine sta_all _ ?_
  simp only [aw28L, List.mem_cons, forall_eq_or_imp, List.not_mem_nil, false_implies, implies_true, and_true]
  exact ⟨sta_eq _, sta_rowV _, sta_eq _, sta_rowV _, sta_eq _, sta_eq _, sta_eq _, sta_eq _, sta_eq _, sta_eq _, sta_eq _, sta_eq _, sta_recW _, sta_eq _, sta_eq _, sta_eq _, sta_eq _, sta_eq _, sta_rootW _, sta_eq _, sta_eq _, sta_eq _, sta_eq _, sta_eq _, sta_sl0, sta_eq _, sta_eq _, sta_eq _, sta_eq _⟩
set_option maxRecDepth 40000 in
set_option maxHeartbeats 16000000 in
theorem awake28_c (w : World) : Calls Try.prog 12 #[] w fun e w' => e = .returned (.bool true) ∧ Below w.heap.size w w' := by
  go_enter Try.func12, Try.ntmps12
  go_wp2_with fail
  refine (new_c _).mono ?_
  rintro e w1 ⟨gb, S, rfl, hGS, hb1⟩
  have hSlt : ∀ g, g ∈ S → g < w1.heap.size := by
    obtain ⟨_, _, _, _, _, _, g3, _⟩ := hGS
    exact fun g hg => (g3 g hg).2
  replace hGS := Lib.hid hGS
  replace hSlt := Lib.hid hSlt
  go_wp2_with fail
  refine (one_c 1 ⟨#[120]⟩ _).mono ?_
  rintro e w2 ⟨va, rfl, hva, hb2⟩
  have hva := hva S hSlt.out
  have hvk := hva
  obtain ⟨p1, c1, p2, c2, p3, c3, rfl, -, -, -⟩ := hvk
  replace hva := Lib.hid hva
  have hrv : recV (oneD 1 ⟨#[120]⟩) p1 c1 p2 c2 p3 c3 = .agg #[.string ⟨#[107]⟩, .int .i64 1, .int .i64 1, .slice p1 0 c1, .bool false, .slice p2 1 c2, .slice p3 0 c3] := rfl
  rw [hrv] at hva ⊢
  clear hrv
  go_wp2_with fail
  refine calls_at (fun W3 hW => ?_)
  have hA : Blk W3 w2.heap.size 25 #[.string ⟨#[107]⟩, .int .i64 1, .int .i64 1, .slice p1 0 c1, .bool false, .slice p2 1 c2, .slice p3 0 c3] := by rw [hW]; exact (Blk.new _ _ _).alloc _
  have hL : Blk W3 (w2.heap.size + 1) 25 #[.string ⟨#[107]⟩, .int .i64 1, .int .i64 1, .slice p1 0 c1, .bool false, .slice p2 1 c2, .slice p3 0 c3, .string ⟨#[107]⟩, .int .i64 1, .int .i64 1, .slice p1 0 c1, .bool false, .slice p2 1 c2, .slice p3 0 c3] := by rw [hW]; exact blk_at (by simp) (Blk.new _ _ _)
  have hb3 : Below w2.heap.size w2 W3 := by rw [hW]; go_grown
  clear hW
  have hG3 := (hGS.out.below hb2).below hb3
  have hb123 := (hb1.trans (hb2.mono hb1.size)).trans (hb3.mono (Nat.le_trans hb1.size hb2.size))
  have hnS : ∀ j, w2.heap.size + j ∉ S := fun j h => by have := hSlt.out _ h; have := hb2.size; omega
  have hva3 : RecF S W3 _ dA := hva.out.ext (.below hb3)
  refine (gWrote_c w.heap.size gb S [] [] _ 2 2 [dA, dA] rfl (by simpa using dA_ok) (by decide) W3 hb123.size hG3 (recs_two hL rfl hva3 (hnS 1))).mono ?_
  rintro e w4 ⟨rfl, S', hG4, hE⟩
  rw [puts_aa] at hG4
  have hA4 : Blk w4 w2.heap.size 25 #[.string ⟨#[107]⟩, .int .i64 1, .int .i64 1, .slice p1 0 c1, .bool false, .slice p2 1 c2, .slice p3 0 c3] := (hE.block _ hA.lt (hnS 0)).trans hA
  have hva4 := hva3.ext hE
  have hb4 : Below w.heap.size w w4 := hb123.trans (hE.old hb123.size (by obtain ⟨_, _, _, _, _, _, g3, _⟩ := hG3; exact fun k hk => (g3 k hk).1))
  have hSlt4 : ∀ g, g ∈ S' → g < w4.heap.size := by
    obtain ⟨_, _, _, _, _, _, g3, _⟩ := hG4
    exact fun g hg => (g3 g hg).2
  replace hG4 := Lib.hid hG4
  replace hva4 := Lib.hid hva4
  replace hSlt4 := Lib.hid hSlt4
  obtain ⟨ga, hga⟩ : ∃ ga, ga = w2.heap.size := ⟨_, rfl⟩
  rw [← hga] at hA4 ⊢
  clear hGS hSlt hA hL hb3 hG3 hb123 hnS hva3 hE hva hga hb1 hb2
  go_wp2_with fail
  refine (one_c 1 ⟨#[120]⟩ _).mono ?_
  rintro e w5 ⟨vb, rfl, hvb, hb5⟩
  have hvb := hvb [] (fun _ h => by cases h)
  obtain ⟨q1, d1, q2, d2, q3, d3, rfl, k1, k2, -⟩ := hvb
  have hrv : recV (oneD 1 ⟨#[120]⟩) q1 d1 q2 d2 q3 d3 = .agg #[.string ⟨#[107]⟩, .int .i64 1, .int .i64 1, .slice q1 0 d1, .bool false, .slice q2 1 d2, .slice q3 0 d3] := rfl
  rw [hrv]
  clear hrv
  replace k1 := Lib.hid k1
  replace k2 := Lib.hid k2
  have hb45 := hb4.trans (hb5.mono hb4.size)
  have hA5 := hA4.below hb5
  go_wp2
  refine at_world (fun W0 hW => ?_)
  have hX : Blk W0 w5.heap.size 25 #[.string ⟨#[107]⟩, .int .i64 1, .int .i64 1, .slice q1 0 d1, .bool false, .slice q2 1 d2, .slice (some ⟨w5.heap.size + 1, 0, none⟩) 1 1] := by rw [hW]; first | exact (Blk.new _ _ _).alloc _ | exact ((Blk.new _ _ _).alloc _).set_ 6 _
  have hY : Blk W0 (w5.heap.size + 1) 5 #[.int .u8 1] := by rw [hW]; first | exact blk_at (by simp) (Blk.new _ _ _) | exact Blk.far (blk_at (by simp) (Blk.new _ _ _)) (by simp) _
  have hb6 : Below w5.heap.size w5 W0 := by rw [hW]; go_grown
  clear hW
  have hb0 := hb45.trans (hb6.mono hb45.size)
  have hA := hA5.below hb6
  have hb46 : Below w4.heap.size w4 W0 := hb5.trans (hb6.mono hb5.size)
  have hGS := hG4.out.below hb46
  have hva0 : RecF [] W0 _ dA := (hva4.out.ext (S' := []) (.of hb46 (fun _ h => by cases h)))
  have hvb0 : RecF [] W0 (.agg #[.string ⟨#[107]⟩, .int .i64 1, .int .i64 1, .slice q1 0 d1, .bool false, .slice q2 1 d2, .slice (some ⟨w5.heap.size + 1, 0, none⟩) 1 1]) dB := ⟨q1, d1, q2, d2, _, 1, rfl, k1.out.ext (.below hb6), k2.out.ext (.below hb6), fun _ => ⟨_, 0, rfl, hY.lt, by simp, fun j hj => by
    have : j = 0 := by simpa [dB] using hj
    subst this
    exact hY.cell 0⟩⟩
  obtain ⟨q3, hq3⟩ : ∃ q3 : Option Addr, q3 = some ⟨w5.heap.size + 1, 0, none⟩ := ⟨_, rfl⟩
  rw [← hq3] at hX hvb0
  obtain ⟨gx, hgx⟩ : ∃ gx, gx = w5.heap.size := ⟨_, rfl⟩
  rw [← hgx] at hX ⊢
  have hrc := Lib.hid fun w1 (hb : Below W0.heap.size W0 w1) => gRecords_c w.heap.size gb S' [dA] [] (by decide) w1 (hGS.below hb)
  have hrt := Lib.hid fun w1 (hb : Below W0.heap.size W0 w1) => gRoots_c w.heap.size gb S' [dA] [] (by decide) w1 (hGS.below hb)
  have hhb0 := fun w1 (hb : Below W0.heap.size W0 w1) => gHas_c w.heap.size gb S' [dA] [] dB _ dB_ok w1 (hGS.below hb) (hvb0.ext (.below hb))
  have hhy0 := fun w1 (hb : Below W0.heap.size W0 w1) v hv => gHas_c w.heap.size gb S' [dA] [] dY v dY_ok w1 (hGS.below hb) hv
  have hhr0 := fun w1 (hb : Below W0.heap.size W0 w1) v hv => gHasRoot_c w.heap.size gb S' [dA] [] (rootD 1) v rt_ok w1 (hGS.below hb) hv
  rw [has_b] at hhb0
  rw [has_y] at hhy0
  rw [has_0] at hhr0
  have hhb := Lib.hid hhb0
  have hhy := Lib.hid hhy0
  have hhr := Lib.hid hhr0
  have hva := Lib.hid fun w1 (hb : Below W0.heap.size W0 w1) => hva0.ext (S := []) (S' := []) (.below hb)
  clear hhb0 hhy0 hhr0 hva0 hvb0 hGS hY hA5 hb5 hb6 hb46 hb45 hb4 hA4 k1 k2 hva4 hSlt4 hG4 hgx hq3
  refine wp_region_grow5 29 (fun k => Nat.beq k 0 || (Nat.ble 14 k && Nat.ble k 41)) _ [] (fun a b => Below a.heap.size a b) (Below.refl _ _).drew below_tr (fun j x' q => (aw28L p1 c1 p2 c2 p3 c3 q1 d1 q2 d2 q3 gb).getD j (fun _ _ => True) x' q) (fun _ => false) (fun f => #[f 0, .pointer (some ⟨gb, 0, none⟩), .pointer (some ⟨ga, 0, none⟩), .pointer (some ⟨gx, 0, none⟩), _, _, _, _, _, _, _, _, _, _, f 14, f 15, f 16, f 17, f 18, f 19, f 20, f 21, f 22, f 23, f 24, f 25, f 26, f 27, f 28, f 29, f 30, f 31, f 32, f 33, f 34, f 35, f 36, f 37, f 38, f 39, f 40, f 41]) (fun f => rfl) (by kernel_rfl) (by kernel_rfl) (by kernel_rfl) (by kernel_rfl) (by kernel_rfl) (aw28S _ _ _ _ _ _ _ _ _ _ _ _) (fun _ _ _ h => by cases h) ?_ ?_
  · refine steps5_cons ?_ ?_
    · intro f w1 hb hd Q hK
      clear hd
      have hK := Lib.hid hK
      go_wp2
      exact hK.out _ _ rfl (Below.refl _ _) (fun h => by cases h)
    refine steps5_cons ?_ ?_
    · intro f w1 hb hd Q hK
      have e14 : f 14 = .pointer (some ⟨gb, 0, none⟩) := hd.1 rfl
      clear hd
      simp only [e14] at hK
      have hK := Lib.hid hK
      go_wp2_with fail
      refine (hrc.out _ hb).mono ?_
      rintro e w2 ⟨v, rfl, hv, hb2⟩
      obtain ⟨p, c, rfl, hp⟩ := all_recs (S := []) hv (fun _ _ h => by cases h)
      replace hp := Lib.hid hp
      go_wp2
      exact hK.out _ _ ⟨p, c, rfl, hp.out⟩ hb2 (fun h => by cases h)
    refine steps5_cons ?_ ?_
    · intro f w1 hb hd Q hK
      clear hd
      have hK := Lib.hid hK
      obtain ⟨c0, c1, c2, c3, c4, c5, c6⟩ := blk7 (hA.below hb)
      go_wp2
      exact hK.out _ _ rfl (Below.refl _ _) (fun h => by cases h)
    refine steps5_cons ?_ ?_
    · intro f w1 hb hd Q hK
      have e16 : f 16 = .agg #[.string ⟨#[107]⟩, .int .i64 1, .int .i64 1, .slice p1 0 c1, .bool false, .slice p2 1 c2, .slice p3 0 c3] := hd.1 rfl
      clear hd
      simp only [e16] at hK
      have hK := Lib.hid hK
      have hvw := Lib.hid (hva.out _ ((hb.trans ((Below.refl _ _).alloc hb.size (.cells #[.string ⟨#[107]⟩, .int .i64 1, .int .i64 1, .slice p1 0 c1, .bool false, .slice p2 1 c2, .slice p3 0 c3] 25)))))
      go_wp2
      exact hK.out _ _ ⟨_, _, rfl, recs_one (Blk.new _ _ _) hvw.out (by simp)⟩ ((Below.refl _ _).alloc (Nat.le_refl _) _) (fun h => by cases h)
    refine steps5_cons ?_ ?_
    · intro f w1 hb hd Q hK
      obtain ⟨p15, c15, e15, h15⟩ := (hd.1 rfl : RowV [dA] (f 15) w1)
      replace h15 := Lib.hid h15
      obtain ⟨p17, c17, e17, h17⟩ := (hd.2.1 rfl : RowV [dA] (f 17) w1)
      replace h17 := Lib.hid h17
      clear hd
      simp only [e15, e17] at hK
      have hK := Lib.hid hK
      have hsm := sameRecs_c p15 p17 c15 c17 [dA] [dA] (by simpa using dA_ok) (by simpa using dA_ok) (by decide) (by decide) w1 h15.out h17.out
      rw [same_a] at hsm
      replace hsm := Lib.hid hsm
      go_wp2_with fail
      refine hsm.out.mono ?_
      rintro e w2 ⟨rfl, hb2⟩
      go_wp2
      exact hK.out _ _ rfl hb2 (fun h => by cases h)
    refine steps5_cons ?_ ?_
    · intro f w1 hb hd Q hK
      have e18 : f 18 = .bool true := hd.1 rfl
      clear hd
      simp only [e18] at hK
      have hK := Lib.hid hK
      go_wp2
      exact hK.out _ _ rfl (Below.refl _ _) (fun h => by cases h)
    refine steps5_cons ?_ ?_
    · intro f w1 hb hd Q hK
      have e19 : f 19 = .bool true := hd.1 rfl
      clear hd
      simp only [e19] at hK
      have hK := Lib.hid hK
      go_wp2
      exact hK.out _ _ rfl (Below.refl _ _) (fun h => by cases h)
    refine steps5_cons ?_ ?_
    · intro f w1 hb hd Q hK
      have e19 : f 19 = .bool true := hd.1 rfl
      clear hd
      simp only [e19] at hK
      have hK := Lib.hid hK
      obtain ⟨c0, c1, c2, c3, c4, c5, c6⟩ := blk7 (hX.below hb)
      go_wp2
      exact hK.out _ _ rfl (Below.refl _ _) (fun h => by cases h)
    refine steps5_cons ?_ ?_
    · intro f w1 hb hd Q hK
      have e20 : f 20 = .pointer (some ⟨gb, 0, none⟩) := hd.1 rfl
      have e21 : f 21 = .agg #[.string ⟨#[107]⟩, .int .i64 1, .int .i64 1, .slice q1 0 d1, .bool false, .slice q2 1 d2, .slice q3 1 1] := hd.2.1 rfl
      have e19 : f 19 = .bool true := hd.2.2.1 rfl
      clear hd
      simp only [e20, e21, e19] at hK
      have hK := Lib.hid hK
      go_wp2_with fail
      refine (hhb.out _ hb).mono ?_
      rintro e w2 ⟨rfl, hb2⟩
      go_wp2
      exact hK.out _ _ rfl hb2 (fun h => by cases h)
    refine steps5_cons ?_ ?_
    · intro f w1 hb hd Q hK
      have e19 : f 19 = .bool true := hd.1 rfl
      have e22 : f 22 = .bool true := hd.2.1 rfl
      clear hd
      simp only [e19, e22] at hK
      have hK := Lib.hid hK
      go_wp2
      exact hK.out _ _ rfl (Below.refl _ _) (fun h => by cases h)
    refine steps5_cons ?_ ?_
    · intro f w1 hb hd Q hK
      have e23 : f 23 = .bool true := hd.1 rfl
      clear hd
      simp only [e23] at hK
      have hK := Lib.hid hK
      go_wp2
      exact hK.out _ _ rfl (Below.refl _ _) (fun h => by cases h)
    refine steps5_cons ?_ ?_
    · intro f w1 hb hd Q hK
      have e24 : f 24 = .bool true := hd.1 rfl
      clear hd
      simp only [e24] at hK
      have hK := Lib.hid hK
      go_wp2
      exact hK.out _ _ rfl (Below.refl _ _) (fun h => by cases h)
    refine steps5_cons ?_ ?_
    · intro f w1 hb hd Q hK
      have e24 : f 24 = .bool true := hd.1 rfl
      clear hd
      simp only [e24] at hK
      have hK := Lib.hid hK
      go_wp2_with fail
      refine (one_c 1 ⟨#[121]⟩ _).mono ?_
      rintro e w2 ⟨v, rfl, hv, hb2⟩
      replace hv := Lib.hid hv
      go_wp2
      exact hK.out _ _ (hv.out [] (fun _ h => by cases h)) hb2 (fun h => by cases h)
    refine steps5_cons ?_ ?_
    · intro f w1 hb hd Q hK
      have e25 : f 25 = .pointer (some ⟨gb, 0, none⟩) := hd.1 rfl
      have h26 := Lib.hid (hd.2.1 rfl : RecW dY (f 26) w1)
      have e24 : f 24 = .bool true := hd.2.2.2.1 rfl
      clear hd
      simp only [e25, e24] at hK
      have hK := Lib.hid hK
      go_wp2_with fail
      refine (hhy.out _ hb _ h26.out).mono ?_
      rintro e w2 ⟨rfl, hb2⟩
      go_wp2
      exact hK.out _ _ rfl hb2 (fun h => by cases h)
    refine steps5_cons ?_ ?_
    · intro f w1 hb hd Q hK
      have e27 : f 27 = .bool false := hd.1 rfl
      have e24 : f 24 = .bool true := hd.2.1 rfl
      clear hd
      simp only [e27, e24] at hK
      have hK := Lib.hid hK
      go_wp2
      exact hK.out _ _ rfl (Below.refl _ _) (fun h => by cases h)
    refine steps5_cons ?_ ?_
    · intro f w1 hb hd Q hK
      have e24 : f 24 = .bool true := hd.1 rfl
      have e28 : f 28 = .bool true := hd.2.1 rfl
      clear hd
      simp only [e24, e28] at hK
      have hK := Lib.hid hK
      go_wp2
      exact hK.out _ _ rfl (Below.refl _ _) (fun h => by cases h)
    refine steps5_cons ?_ ?_
    · intro f w1 hb hd Q hK
      have e29 : f 29 = .bool true := hd.1 rfl
      clear hd
      simp only [e29] at hK
      have hK := Lib.hid hK
      go_wp2
      exact hK.out _ _ rfl (Below.refl _ _) (fun h => by cases h)
    refine steps5_cons ?_ ?_
    · intro f w1 hb hd Q hK
      have e30 : f 30 = .bool true := hd.1 rfl
      clear hd
      simp only [e30] at hK
      have hK := Lib.hid hK
      go_wp2
      exact hK.out _ _ rfl (Below.refl _ _) (fun h => by cases h)
    refine steps5_cons ?_ ?_
    · intro f w1 hb hd Q hK
      have e30 : f 30 = .bool true := hd.1 rfl
      clear hd
      simp only [e30] at hK
      have hK := Lib.hid hK
      go_wp2_with fail
      refine (rootOf_c 1 _).mono ?_
      rintro e w2 ⟨v, rfl, hv, hb2⟩
      replace hv := Lib.hid hv
      go_wp2
      exact hK.out _ _ hv.out hb2 (fun h => by cases h)
    refine steps5_cons ?_ ?_
    · intro f w1 hb hd Q hK
      have e31 : f 31 = .pointer (some ⟨gb, 0, none⟩) := hd.1 rfl
      have h32 := Lib.hid (hd.2.1 rfl : RootW (rootD 1) (f 32) w1)
      have e30 : f 30 = .bool true := hd.2.2.2.1 rfl
      clear hd
      simp only [e31, e30] at hK
      have hK := Lib.hid hK
      go_wp2_with fail
      refine (hhr.out _ hb _ h32.out).mono ?_
      rintro e w2 ⟨rfl, hb2⟩
      go_wp2
      exact hK.out _ _ rfl hb2 (fun h => by cases h)
    refine steps5_cons ?_ ?_
    · intro f w1 hb hd Q hK
      have e33 : f 33 = .bool false := hd.1 rfl
      have e30 : f 30 = .bool true := hd.2.1 rfl
      clear hd
      simp only [e33, e30] at hK
      have hK := Lib.hid hK
      go_wp2
      exact hK.out _ _ rfl (Below.refl _ _) (fun h => by cases h)
    refine steps5_cons ?_ ?_
    · intro f w1 hb hd Q hK
      have e30 : f 30 = .bool true := hd.1 rfl
      have e34 : f 34 = .bool true := hd.2.1 rfl
      clear hd
      simp only [e30, e34] at hK
      have hK := Lib.hid hK
      go_wp2
      exact hK.out _ _ rfl (Below.refl _ _) (fun h => by cases h)
    refine steps5_cons ?_ ?_
    · intro f w1 hb hd Q hK
      have e35 : f 35 = .bool true := hd.1 rfl
      clear hd
      simp only [e35] at hK
      have hK := Lib.hid hK
      go_wp2
      exact hK.out _ _ rfl (Below.refl _ _) (fun h => by cases h)
    refine steps5_cons ?_ ?_
    · intro f w1 hb hd Q hK
      have e36 : f 36 = .bool true := hd.1 rfl
      clear hd
      simp only [e36] at hK
      have hK := Lib.hid hK
      go_wp2
      exact hK.out _ _ rfl (Below.refl _ _) (fun h => by cases h)
    refine steps5_cons ?_ ?_
    · intro f w1 hb hd Q hK
      have e37 : f 37 = .pointer (some ⟨gb, 0, none⟩) := hd.1 rfl
      have e36 : f 36 = .bool true := hd.2.1 rfl
      clear hd
      simp only [e37, e36] at hK
      have hK := Lib.hid hK
      go_wp2_with fail
      refine (hrt.out _ hb).mono ?_
      rintro e w2 ⟨v, rfl, hv, hb2⟩
      obtain ⟨p, c, rfl⟩ : ∃ p c, v = .slice p 0 c := (by obtain ⟨vs, bls, h1, _⟩ := hv; exact own_sl h1)
      clear hv
      go_wp2
      exact hK.out _ _ ⟨_, _, rfl⟩ hb2 (fun h => by cases h)
    refine steps5_cons ?_ ?_
    · intro f w1 hb hd Q hK
      obtain ⟨p38, c38, e38⟩ := (hd.1 rfl : Sl0 (f 38) w1)
      have e36 : f 36 = .bool true := hd.2.1 rfl
      clear hd
      simp only [e38, e36] at hK
      have hK := Lib.hid hK
      go_wp2
      exact hK.out _ _ rfl (Below.refl _ _) (fun h => by cases h)
    refine steps5_cons ?_ ?_
    · intro f w1 hb hd Q hK
      have e39 : f 39 = .int .i64 0 := hd.1 rfl
      have e36 : f 36 = .bool true := hd.2.1 rfl
      clear hd
      simp only [e39, e36] at hK
      have hK := Lib.hid hK
      go_wp2
      exact hK.out _ _ rfl (Below.refl _ _) (fun h => by cases h)
    refine steps5_cons ?_ ?_
    · intro f w1 hb hd Q hK
      have e36 : f 36 = .bool true := hd.1 rfl
      have e40 : f 40 = .bool true := hd.2.1 rfl
      clear hd
      simp only [e36, e40] at hK
      have hK := Lib.hid hK
      go_wp2
      exact hK.out _ _ rfl (Below.refl _ _) (fun h => by cases h)
    refine steps5_cons ?_ ?_
    · intro f w1 hb hd Q hK
      have e41 : f 41 = .bool true := hd.1 rfl
      clear hd
      simp only [e41] at hK
      have hK := Lib.hid hK
      go_wp2
      exact hK.out _ _ rfl (Below.refl _ _) (fun h => by cases h)
    trivial
  · intro f w1 hb hf hne
    refine wpList_nil ?_
    have d0 : f 0 = .bool true := hf 28 _ _ (by decide) rfl rfl
    simp only [d0]
    clear hf hne d0
    have hb9 := hb0.trans (hb.mono hb0.size)
    go_wp2
    go_returns
    exact ⟨rfl, hb9⟩
end Go.Proofs.Ytdgaoljobpneaaa
