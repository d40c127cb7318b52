/- The walk of the law EdwardsCurve. A row's last step where of the world behind the call 'Below' alone is known. Two arrays of five words, as they are read among a call's arguments. EdwardsCurve answers true at every input, and its argument reads as it did; its two package variables are tied to the program's text. -/
import Derived.Test.YtpaldgajkhmhbaaDoorZd
import Derived.Below
import Derived.ChangeSame
import Derived.ProofKit
import Derived.Laws.IdiomArrays
import Derived.Test.YtpaldgajkhmhbaaDoorRows
import Derived.Test.YtpaldgajkhmhbaaDoorCards
import Derived.Test.YtpaldgajkhmhbaaDoorTie
import Derived.LaidMore
import Derived.ChangeSlices
import Derived.OpenShut
import Derived.Stop.Joined
import Derived.SevenTiedAt
namespace Go.Proofs.YtpaldgajkhmhbaaDoor
open Go.RowKit
theorem getr_c (g o c : Nat) (b : Nat → Int) (hr : ∀ j, 0 ≤ b j ∧ b j < 256) (w : World) (hg : g < w.heap.size) (hc : ∀ j, j < 32 → w.cell? ⟨g, o + j, none⟩ = some (.int .u8 (b j))) (hCv : CvP w) (hok : Fe.okB b = true) :
    Calls Tryd.prog 13 #[.slice (some ⟨g, o, none⟩) 32 c] w fun e w' => ∃ X Y Z T, e = .returned (.tuple #[.agg (pcs X Y Z T), .bool true]) ∧ El X (Fe.gX (Fe.nB b) (Fe.odB b)) ∧ El Y (Fe.nB b) ∧ El Z 1 ∧ Below w.heap.size w w' := by
  refine (getp_c g o c b hr w hg hc hCv).mono ?_
  rintro e w' ⟨⟨_, X, Y, Z, T, he, hX, hY, hZ, _⟩ | ⟨hn, _⟩, hb⟩
  · exact ⟨X, Y, Z, T, he, hX, hY, hZ, hb⟩
  · rw [hok] at hn; cases hn
theorem el_four : El ⟨4, 0, 0, 0, 0⟩ 4 := ⟨Fe.R_four, Fe.nv_four⟩
theorem el_five : El ⟨5, 0, 0, 0, 0⟩ 5 := ⟨by simp only [Fe.R]; omega, by decide +kernel⟩
theorem el_d2 : El ⟨121666, 0, 0, 0, 0⟩ 121666 := ⟨by simp only [Fe.R]; omega, by decide +kernel⟩
theorem el_d1 : El ⟨121665, 0, 0, 0, 0⟩ 121665 := ⟨by simp only [Fe.R]; omega, by decide +kernel⟩
theorem base_45 : decide (Fe.bY * 5 % Fe.P = 1 * 4 % Fe.P) = true := by decide +kernel
theorem base_even : decide (Fe.bX * (1 ^ (Fe.P - 2) % Fe.P) % Fe.P % 2 = 1) = false := by rw [Nat.one_pow]; decide +kernel
theorem base_45' {BY C1 : Nat} (h : Fe.bY = BY) (h1 : 1 = C1) : decide (BY * 5 % Fe.P = C1 * 4 % Fe.P) = true := by subst h; subst h1; exact base_45
theorem base_even' {BX C1 : Nat} (h : Fe.bX = BX) (h1 : 1 = C1) : decide (BX * (C1 ^ (Fe.P - 2) % Fe.P) % Fe.P % 2 = 1) = false := by subst h; subst h1; exact base_even
theorem curve_id {x y : Fin Fe.P} (h : Fe.Cv x y) : decide (121666 * (((y.val * y.val % Fe.P + (Fe.P - x.val * x.val % Fe.P)) % Fe.P + (Fe.P - 1)) % Fe.P) % Fe.P = (Fe.P - 121665 * (x.val * x.val % Fe.P * (y.val * y.val % Fe.P) % Fe.P) % Fe.P) % Fe.P) = true := by
  refine decide_eq_true ?_
  have hd : (121666 : Nat) * Fe.dN % Fe.P = Fe.P - 121665 := by decide +kernel
  have hd2 : Fe.zf 121666 * Fe.dF = -Fe.zf 121665 := by
    rw [← Fe.dF_def, ← Fe.zf_mul, ← Fe.zf_mod, hd, Fe.zf_sub _ (by unfold Fe.P; decide)]
  unfold Fe.Cv at h
  rw [Fe.zf_eq (Fe.mod_lt' _) (Fe.mod_lt' _), Fe.zf_mod, Fe.zf_mul, Fe.zf_mod, Fe.zf_sub' _ _ Fe.P_one, Fe.zf_mod, Fe.zf_sub' _ _ (Fe.mod_lt' _), Fe.zf_mod, Fe.zf_mul, Fe.zf_mod, Fe.zf_mul, Fe.zf_mod, Fe.zf_sub _ (Nat.le_of_lt (Fe.mod_lt' _)), Fe.zf_mod, Fe.zf_mul, Fe.zf_mod, Fe.zf_mul, Fe.zf_mod, Fe.zf_mul, Fe.zf_mod, Fe.zf_mul, Fe.zf_val, Fe.zf_val, Fe.zf_1]
  generalize Fe.zf 121666 = k at *
  generalize Fe.zf 121665 = l at *
  generalize Fe.dF = d at *
  clear hd
  grind
def cu7L (X1 : Fe.E) (Y1 : Fe.E) (Z1 : Fe.E) (BX : Nat) (BY : Nat) (C1 : Nat) (G3 : Nat) : List (Value → World → Prop) := [
  Eq1 (.bool true),
  Eq1 (.bool false),
  Eq1 (.bool false),
  Eq1 (.pointer (some ⟨G3, 5, none⟩)),
  Eq1 (.agg #[.int .u64 Y1.a0, .int .u64 Y1.a1, .int .u64 Y1.a2, .int .u64 Y1.a3, .int .u64 Y1.a4]),
  Eq1 (.agg #[.int .u64 5, .int .u64 0, .int .u64 0, .int .u64 0, .int .u64 0]),
  ElP (BY * 5 % Fe.P),
  Eq1 (.pointer (some ⟨G3, 10, none⟩)),
  Eq1 (.agg #[.int .u64 Z1.a0, .int .u64 Z1.a1, .int .u64 Z1.a2, .int .u64 Z1.a3, .int .u64 Z1.a4]),
  Eq1 (.agg #[.int .u64 4, .int .u64 0, .int .u64 0, .int .u64 0, .int .u64 0]),
  ElP (C1 * 4 % Fe.P),
  Eq1 (.bool true),
  Eq1 (.bool false),
  Eq1 (.bool false),
  Eq1 (.bool false),
  Eq1 (.pointer (some ⟨G3, 0, none⟩)),
  Eq1 (.agg #[.int .u64 X1.a0, .int .u64 X1.a1, .int .u64 X1.a2, .int .u64 X1.a3, .int .u64 X1.a4]),
  Eq1 (.pointer (some ⟨G3, 10, none⟩)),
  Eq1 (.agg #[.int .u64 Z1.a0, .int .u64 Z1.a1, .int .u64 Z1.a2, .int .u64 Z1.a3, .int .u64 Z1.a4]),
  ElP (C1 ^ (Fe.P - 2) % Fe.P),
  ElP (BX * (C1 ^ (Fe.P - 2) % Fe.P) % Fe.P),
  Eq1 (.bool false),
  Eq1 (.bool false)]
theorem cu7S (X1 : Fe.E) (Y1 : Fe.E) (Z1 : Fe.E) (BX : Nat) (BY : Nat) (C1 : Nat) (G3 : Nat) : ∀ j x' q q', (cu7L X1 Y1 Z1 BX BY C1 G3).getD j (fun _ _ => True) x' q → Below q.heap.size q q' → (cu7L X1 Y1 Z1 BX BY C1 G3).getD j (fun _ _ => True) x' q' := by
  refine sta_all _ ?_
  simp only [cu7L, List.mem_cons, forall_eq_or_imp, List.not_mem_nil, false_implies, implies_true, and_true]
  exact ⟨sta_eq _, sta_eq _, sta_eq _, sta_eq _, sta_eq _, sta_eq _, sta_el _, sta_eq _, sta_eq _, sta_eq _, sta_el _, sta_eq _, sta_eq _, sta_eq _, sta_eq _, sta_eq _, sta_eq _, sta_eq _, sta_eq _, sta_el _, sta_el _, sta_eq _, sta_eq _⟩
def cu11L (X2 : Fe.E) (Y2 : Fe.E) (xi : Fe.E) (a : Nat) (bb : Nat) (IZ : Nat) (G7 : Nat) (B0 : Nat) : List (Value → World → Prop) := [
  Eq1 (.pointer (some ⟨G7, 0, none⟩)),
  Eq1 (.agg #[.int .u64 X2.a0, .int .u64 X2.a1, .int .u64 X2.a2, .int .u64 X2.a3, .int .u64 X2.a4]),
  Eq1 (.agg #[.int .u64 xi.a0, .int .u64 xi.a1, .int .u64 xi.a2, .int .u64 xi.a3, .int .u64 xi.a4]),
  ElP (a * IZ % Fe.P),
  Eq1 (.pointer (some ⟨G7, 5, none⟩)),
  Eq1 (.agg #[.int .u64 Y2.a0, .int .u64 Y2.a1, .int .u64 Y2.a2, .int .u64 Y2.a3, .int .u64 Y2.a4]),
  Eq1 (.agg #[.int .u64 xi.a0, .int .u64 xi.a1, .int .u64 xi.a2, .int .u64 xi.a3, .int .u64 xi.a4]),
  ElP (bb * IZ % Fe.P),
  NewB B0 27 #[.int .u64 0, .int .u64 0, .int .u64 0, .int .u64 0, .int .u64 0],
  NewB B0 27 #[.int .u64 0, .int .u64 0, .int .u64 0, .int .u64 0, .int .u64 0]]
theorem cu11S (X2 : Fe.E) (Y2 : Fe.E) (xi : Fe.E) (a : Nat) (bb : Nat) (IZ : Nat) (G7 : Nat) (B0 : Nat) : ∀ j x' q q', (cu11L X2 Y2 xi a bb IZ G7 B0).getD j (fun _ _ => True) x' q → Below q.heap.size q q' → (cu11L X2 Y2 xi a bb IZ G7 B0).getD j (fun _ _ => True) x' q' := by
  refine sta_all _ ?_
  simp only [cu11L, List.mem_cons, forall_eq_or_imp, List.not_mem_nil, false_implies, implies_true, and_true]
  exact ⟨sta_eq _, sta_eq _, sta_eq _, sta_el _, sta_eq _, sta_eq _, sta_eq _, sta_el _, sta_new _ _ _, sta_new _ _ _⟩
theorem cu11O (X2 : Fe.E) (Y2 : Fe.E) (xi : Fe.E) (a : Nat) (bb : Nat) (IZ : Nat) (G7 : Nat) (B0 : Nat) : ∀ j x' q, (fun j => j == 8 || j == 9) j = true → (cu11L X2 Y2 xi a bb IZ G7 B0).getD j (fun _ _ => True) x' q → ∀ g, x' = .pointer (some ⟨g, 0, none⟩) → g < q.heap.size := by
  intro j x' q hj hv g e
  have hj' : j = 8 ∨ j = 9 := by simpa only [Bool.or_eq_true, beq_iff_eq, or_assoc] using hj
  rcases hj' with rfl | rfl
  all_goals exact new_lt hv e
def cu12L (x59 : Fe.E) (x63 : Fe.E) (NX : Nat) (NY : Nat) (B0 : Nat) : List (Value → World → Prop) := [
  Eq1 (.agg #[.int .u64 x59.a0, .int .u64 x59.a1, .int .u64 x59.a2, .int .u64 x59.a3, .int .u64 x59.a4]),
  ElP (NX * NX % Fe.P),
  Eq1 (.agg #[.int .u64 x63.a0, .int .u64 x63.a1, .int .u64 x63.a2, .int .u64 x63.a3, .int .u64 x63.a4]),
  ElP (NY * NY % Fe.P),
  NewB B0 27 #[.int .u64 0, .int .u64 0, .int .u64 0, .int .u64 0, .int .u64 0],
  NewB B0 27 #[.int .u64 0, .int .u64 0, .int .u64 0, .int .u64 0, .int .u64 0]]
theorem cu12S (x59 : Fe.E) (x63 : Fe.E) (NX : Nat) (NY : Nat) (B0 : Nat) : ∀ j x' q q', (cu12L x59 x63 NX NY B0).getD j (fun _ _ => True) x' q → Below q.heap.size q q' → (cu12L x59 x63 NX NY B0).getD j (fun _ _ => True) x' q' := by
  refine sta_all _ ?_
  simp only [cu12L, List.mem_cons, forall_eq_or_imp, List.not_mem_nil, false_implies, implies_true, and_true]
  exact ⟨sta_eq _, sta_el _, sta_eq _, sta_el _, sta_new _ _ _, sta_new _ _ _⟩
theorem cu12O (x59 : Fe.E) (x63 : Fe.E) (NX : Nat) (NY : Nat) (B0 : Nat) : ∀ j x' q, (fun j => j == 4 || j == 5) j = true → (cu12L x59 x63 NX NY B0).getD j (fun _ _ => True) x' q → ∀ g, x' = .pointer (some ⟨g, 0, none⟩) → g < q.heap.size := by
  intro j x' q hj hv g e
  have hj' : j = 4 ∨ j = 5 := by simpa only [Bool.or_eq_true, beq_iff_eq, or_assoc] using hj
  rcases hj' with rfl | rfl
  all_goals exact new_lt hv e
set_option maxRecDepth 20000 in
set_option maxHeartbeats 8000000 in
theorem curve4_c (p : Option Addr) (n c : Nat) (b : Nat → Int) (hr : ∀ j, 0 ≤ b j ∧ b j < 256) (w : World) (hB : BAt w p n b) (hCv : CvP w) : Calls Tryd.prog 5 #[.slice p n c] w fun e w' => e = .returned (.bool true) ∧ Below w.heap.size w w' := by
  by_cases hn : n ≤ 100
  · have hni : (n : Int) ≤ 100 := by omega
    obtain ⟨BX, hBX⟩ : ∃ v, Fe.bX = v := ⟨_, rfl⟩
    obtain ⟨BY, hBY⟩ : ∃ v, Fe.bY = v := ⟨_, rfl⟩
    obtain ⟨C1, hC1⟩ : ∃ v : Nat, 1 = v := ⟨_, rfl⟩
    have hS := Lib.hid (base_45' hBY hC1)
    have hO := Lib.hid (base_even' hBX hC1)
    replace hC1 := Lib.hid hC1
    replace hBX := Lib.hid hBX
    replace hBY := Lib.hid hBY
    have hPt := fun w1 (hb : Below w.heap.size w w1) => point_c p n c b hr hn w1 (hB.below hb) (hCv.below hb hCv.lt)
    replace hPt := Lib.hid hPt
    replace hCv := Lib.hid hCv
    clear hB hr hn
    go_enter Tryd.func5, Tryd.ntmps5
    go_wp2_with fail
    refine (awake4_c w hCv.out).mono ?_
    rintro e w1 ⟨rfl, hb0⟩
    go_wp2_with fail
    refine (base_c w1 (hCv.out.below hb0 hCv.out.lt)).mono ?_
    rintro e w2 ⟨X, Y, Z, T, rfl, hE, hb⟩
    replace hb0 := hb0.trans (hb.mono hb0.size)
    replace hE := Lib.hid hE
    clear hb
    go_wp2_with fail
    refine (pput_c w2 hE.out).mono ?_
    rintro e w3 ⟨g1, hg1, rfl, hR, hb⟩
    replace hR := Lib.hid (hR.congr Fe.put_base)
    replace hb0 := hb0.trans (hb.mono hb0.size)
    clear hb hE hg1
    go_wp2_with fail
    refine (getr_c g1 0 32 Fe.bb Fe.bb_r w3 hR.out.lt (fun j hj => by rw [Nat.zero_add]; exact hR.out.cell j hj) (hCv.out.below hb0 hCv.out.lt) Fe.okB_bb).mono ?_
    rintro e w4 ⟨X1, Y1, Z1, T1, rfl, hX1, hY1, hZ1, hb⟩
    rw [Fe.nB_bb, Fe.odB_bb, Fe.gX_bb, hBX.out] at hX1
    rw [Fe.nB_bb, hBY.out] at hY1
    rw [hC1.out] at hZ1
    replace hb0 := hb0.trans (hb.mono hb0.size)
    clear hb hR hBX hBY hC1
    go_wp2_with (first | (refine stPt rfl rfl rfl rfl (Blk.new _ _ _) rfl rfl (by kernel_rfl) ?_; intro w5 k3 hgr hsz))
    have hs5 : w5.heap.size = w4.heap.size + 1 := by rw [hsz, World.size_alloc]
    have hb5 : Below w4.heap.size w4 w5 := ((Below.refl _ _).alloc (Nat.le_refl _) _).grown hgr (by rw [World.size_alloc]; omega) (fun k hk => by injection hk with hk; omega)
    replace hb0 := hb0.trans (hb5.mono hb0.size)
    clear hgr hsz hb5
    refine at_world (fun w6 hW => ?_)
    have hb : Below w5.heap.size w5 w6 := by rw [hW]; exact ((Below.refl _ _).alloc (Nat.le_refl _) _).alloc (by rw [World.size_alloc]; omega) _
    have k5 : Blk w6 (w4.heap.size + 1) 27 #[.int .u64 4, .int .u64 0, .int .u64 0, .int .u64 0, .int .u64 0] := by rw [hW]; exact (blk_at hs5 (Blk.new _ _ _)).alloc _
    have k6 : Blk w6 (w4.heap.size + 1 + 1) 27 #[.int .u64 5, .int .u64 0, .int .u64 0, .int .u64 0, .int .u64 0] := by rw [hW]; exact blk_at (by rw [World.size_alloc, hs5]) (Blk.new _ _ _)
    replace k3 := k3.below hb
    replace hb0 := hb0.trans (hb.mono hb0.size)
    clear hW hb hs5
    obtain ⟨G6, hG6⟩ : ∃ G, G = w4.heap.size + 1 + 1 := ⟨_, rfl⟩
    rw [← hG6] at k6 ⊢
    obtain ⟨G5, hG5⟩ : ∃ G, G = w4.heap.size + 1 := ⟨_, rfl⟩
    rw [← hG5] at k5 ⊢
    obtain ⟨G3, hG3⟩ : ∃ G, G = w4.heap.size := ⟨_, rfl⟩
    rw [← hG3] at k3 ⊢
    clear hG3 hG5 hG6
    have hC6 := hCv.out.below hb0 hCv.out.lt
    refine wp_region_grow2 23 (fun k => (Nat.ble 28 k && Nat.ble k 50)) _ [] (fun j x' q => (cu7L X1 Y1 Z1 BX BY C1 G3).getD j (fun _ _ => True) x' q) (fun _ => false) (fun f => #[.slice p n c, undef, .bool false, .pointer (some ⟨G3, 0, none⟩), .bool true, .pointer (some ⟨G5, 0, none⟩), .pointer (some ⟨G6, 0, none⟩), undef, undef, undef, undef, undef, undef, undef, undef, .bool true, .bool false, .slice p n c, .int .i64 (n : Int), .bool (decide (100 < (n : Int))), .tuple #[.agg (pcs X1 Y1 Z1 T1), .bool true], .agg (pcs X Y Z T), .slice (some ⟨g1, 0, none⟩) 32 32, .tuple #[.agg (pcs X1 Y1 Z1 T1), .bool true], .agg (pcs X1 Y1 Z1 T1), .bool true, .agg #[.int .u64 4, .int .u64 0, .int .u64 0, .int .u64 0, .int .u64 0], .agg #[.int .u64 5, .int .u64 0, .int .u64 0, .int .u64 0, .int .u64 0], f 28, f 29, f 30, f 31, f 32, f 33, f 34, f 35, f 36, f 37, f 38, f 39, f 40, f 41, f 42, f 43, f 44, f 45, f 46, f 47, f 48, f 49, f 50, undef, undef, undef, undef, undef, undef, undef, undef, undef, undef, undef, undef, undef, undef, undef, undef, undef, undef, undef, undef, undef, undef, undef, undef, undef, undef, undef, undef, undef, undef, undef, undef, undef, undef, undef, undef, undef, undef, undef]) (fun f => rfl) (by kernel_rfl) (by kernel_rfl) (by kernel_rfl) (by kernel_rfl) (by kernel_rfl) (cu7S _ _ _ _ _ _ _) (fun _ _ _ h => by cases h) ?_ ?_
    · refine steps2_cons ?_ ?_
      · as_aux_lemma =>
        intro f w1 hb hd Q hK
        clear hd
        have hK := Lib.hid hK
        go_wp2
        exact hK.out _ _ rfl (Below.refl _ _) (fun h => by cases h)
      refine steps2_cons ?_ ?_
      · as_aux_lemma =>
        intro f w1 hb hd Q hK
        have e28 : f 28 = .bool true := hd.1 rfl
        clear hd
        simp only [e28] at hK
        have hK := Lib.hid hK
        go_wp2
        exact hK.out _ _ rfl (Below.refl _ _) (fun h => by cases h)
      refine steps2_cons ?_ ?_
      · as_aux_lemma =>
        intro f w1 hb hd Q hK
        have e29 : f 29 = .bool false := hd.1 rfl
        clear hd
        simp only [e29] at hK
        have hK := Lib.hid hK
        go_wp2
        exact hK.out _ _ rfl (Below.refl _ _) (fun h => by cases h)
      refine steps2_cons ?_ ?_
      · as_aux_lemma =>
        intro f w1 hb hd Q hK
        have e30 : f 30 = .bool false := hd.1 rfl
        clear hd
        simp only [e30] at hK
        have hK := Lib.hid hK
        go_wp2
        exact hK.out _ _ rfl (Below.refl _ _) (fun h => by cases h)
      refine steps2_cons ?_ ?_
      · as_aux_lemma =>
        intro f w1 hb hd Q hK
        have e31 : f 31 = .pointer (some ⟨G3, 5, none⟩) := hd.1 rfl
        have e30 : f 30 = .bool false := hd.2.1 rfl
        clear hd
        simp only [e31, e30] at hK
        have hK := Lib.hid hK
        have c0 : w1.cell? ⟨G3, 5, none⟩ = some (.int .u64 Y1.a0) := (k3.below hb).cell 5
        have c1 : w1.cell? ⟨G3, 6, none⟩ = some (.int .u64 Y1.a1) := (k3.below hb).cell 6
        have c2 : w1.cell? ⟨G3, 7, none⟩ = some (.int .u64 Y1.a2) := (k3.below hb).cell 7
        have c3 : w1.cell? ⟨G3, 8, none⟩ = some (.int .u64 Y1.a3) := (k3.below hb).cell 8
        have c4 : w1.cell? ⟨G3, 9, none⟩ = some (.int .u64 Y1.a4) := (k3.below hb).cell 9
        go_wp2
        exact hK.out _ _ rfl (Below.refl _ _) (fun h => by cases h)
      refine steps2_cons ?_ ?_
      · as_aux_lemma =>
        intro f w1 hb hd Q hK
        have e30 : f 30 = .bool false := hd.1 rfl
        clear hd
        simp only [e30] at hK
        have hK := Lib.hid hK
        have c0 : w1.cell? ⟨G6, 0, none⟩ = some (.int .u64 5) := (k6.below hb).cell 0
        have c1 : w1.cell? ⟨G6, 1, none⟩ = some (.int .u64 0) := (k6.below hb).cell 1
        have c2 : w1.cell? ⟨G6, 2, none⟩ = some (.int .u64 0) := (k6.below hb).cell 2
        have c3 : w1.cell? ⟨G6, 3, none⟩ = some (.int .u64 0) := (k6.below hb).cell 3
        have c4 : w1.cell? ⟨G6, 4, none⟩ = some (.int .u64 0) := (k6.below hb).cell 4
        go_wp2
        exact hK.out _ _ rfl (Below.refl _ _) (fun h => by cases h)
      refine steps2_cons ?_ ?_
      · as_aux_lemma =>
        intro f w1 hb hd Q hK
        have e32 : f 32 = .agg #[.int .u64 Y1.a0, .int .u64 Y1.a1, .int .u64 Y1.a2, .int .u64 Y1.a3, .int .u64 Y1.a4] := hd.1 rfl
        have e33 : f 33 = .agg #[.int .u64 5, .int .u64 0, .int .u64 0, .int .u64 0, .int .u64 0] := hd.2.1 rfl
        have e30 : f 30 = .bool false := hd.2.2.1 rfl
        clear hd
        simp only [e32, e33, e30] at hK
        have hK := Lib.hid hK
        go_wp2_with fail
        refine (fMul hY1 el_five _).mono ?_
        rintro e w2 ⟨x, rfl, hx, hb2⟩
        go_wp2
        exact hK.out _ _ ⟨x, rfl, hx⟩ hb2 (fun h => by cases h)
      refine steps2_cons ?_ ?_
      · as_aux_lemma =>
        intro f w1 hb hd Q hK
        have e30 : f 30 = .bool false := hd.1 rfl
        clear hd
        simp only [e30] at hK
        have hK := Lib.hid hK
        go_wp2
        exact hK.out _ _ rfl (Below.refl _ _) (fun h => by cases h)
      refine steps2_cons ?_ ?_
      · as_aux_lemma =>
        intro f w1 hb hd Q hK
        have e35 : f 35 = .pointer (some ⟨G3, 10, none⟩) := hd.1 rfl
        have e30 : f 30 = .bool false := hd.2.1 rfl
        clear hd
        simp only [e35, e30] at hK
        have hK := Lib.hid hK
        have c0 : w1.cell? ⟨G3, 10, none⟩ = some (.int .u64 Z1.a0) := (k3.below hb).cell 10
        have c1 : w1.cell? ⟨G3, 11, none⟩ = some (.int .u64 Z1.a1) := (k3.below hb).cell 11
        have c2 : w1.cell? ⟨G3, 12, none⟩ = some (.int .u64 Z1.a2) := (k3.below hb).cell 12
        have c3 : w1.cell? ⟨G3, 13, none⟩ = some (.int .u64 Z1.a3) := (k3.below hb).cell 13
        have c4 : w1.cell? ⟨G3, 14, none⟩ = some (.int .u64 Z1.a4) := (k3.below hb).cell 14
        go_wp2
        exact hK.out _ _ rfl (Below.refl _ _) (fun h => by cases h)
      refine steps2_cons ?_ ?_
      · as_aux_lemma =>
        intro f w1 hb hd Q hK
        have e30 : f 30 = .bool false := hd.1 rfl
        clear hd
        simp only [e30] at hK
        have hK := Lib.hid hK
        have c0 : w1.cell? ⟨G5, 0, none⟩ = some (.int .u64 4) := (k5.below hb).cell 0
        have c1 : w1.cell? ⟨G5, 1, none⟩ = some (.int .u64 0) := (k5.below hb).cell 1
        have c2 : w1.cell? ⟨G5, 2, none⟩ = some (.int .u64 0) := (k5.below hb).cell 2
        have c3 : w1.cell? ⟨G5, 3, none⟩ = some (.int .u64 0) := (k5.below hb).cell 3
        have c4 : w1.cell? ⟨G5, 4, none⟩ = some (.int .u64 0) := (k5.below hb).cell 4
        go_wp2
        exact hK.out _ _ rfl (Below.refl _ _) (fun h => by cases h)
      refine steps2_cons ?_ ?_
      · as_aux_lemma =>
        intro f w1 hb hd Q hK
        have e36 : f 36 = .agg #[.int .u64 Z1.a0, .int .u64 Z1.a1, .int .u64 Z1.a2, .int .u64 Z1.a3, .int .u64 Z1.a4] := hd.1 rfl
        have e37 : f 37 = .agg #[.int .u64 4, .int .u64 0, .int .u64 0, .int .u64 0, .int .u64 0] := hd.2.1 rfl
        have e30 : f 30 = .bool false := hd.2.2.2.1 rfl
        clear hd
        simp only [e36, e37, e30] at hK
        have hK := Lib.hid hK
        go_wp2_with fail
        refine (fMul hZ1 el_four _).mono ?_
        rintro e w2 ⟨x, rfl, hx, hb2⟩
        go_wp2
        exact hK.out _ _ ⟨x, rfl, hx⟩ hb2 (fun h => by cases h)
      refine steps2_cons ?_ ?_
      · as_aux_lemma =>
        intro f w1 hb hd Q hK
        obtain ⟨x34, e34, h34⟩ := (hd.1 rfl : ElP (BY * 5 % Fe.P) (f 34) w1)
        obtain ⟨x38, e38, h38⟩ := (hd.2.1 rfl : ElP (C1 * 4 % Fe.P) (f 38) w1)
        have e30 : f 30 = .bool false := hd.2.2.2.1 rfl
        clear hd
        simp only [e34, e38, e30] at hK
        have hK := Lib.hid hK
        go_wp2_with fail
        refine (fSameV h34 h38 hS.out _).mono ?_
        rintro e w2 ⟨rfl, hb2⟩
        go_wp2
        exact hK.out _ _ rfl hb2 (fun h => by cases h)
      refine steps2_cons ?_ ?_
      · as_aux_lemma =>
        intro f w1 hb hd Q hK
        have e39 : f 39 = .bool true := hd.1 rfl
        have e30 : f 30 = .bool false := hd.2.1 rfl
        clear hd
        simp only [e39, e30] at hK
        have hK := Lib.hid hK
        go_wp2
        exact hK.out _ _ rfl (Below.refl _ _) (fun h => by cases h)
      refine steps2_cons ?_ ?_
      · as_aux_lemma =>
        intro f w1 hb hd Q hK
        have e30 : f 30 = .bool false := hd.1 rfl
        have e40 : f 40 = .bool false := hd.2.1 rfl
        clear hd
        simp only [e30, e40] at hK
        have hK := Lib.hid hK
        go_wp2
        exact hK.out _ _ rfl (Below.refl _ _) (fun h => by cases h)
      refine steps2_cons ?_ ?_
      · as_aux_lemma =>
        intro f w1 hb hd Q hK
        have e41 : f 41 = .bool false := hd.1 rfl
        clear hd
        simp only [e41] at hK
        have hK := Lib.hid hK
        go_wp2
        exact hK.out _ _ rfl (Below.refl _ _) (fun h => by cases h)
      refine steps2_cons ?_ ?_
      · as_aux_lemma =>
        intro f w1 hb hd Q hK
        have e42 : f 42 = .bool false := hd.1 rfl
        clear hd
        simp only [e42] at hK
        have hK := Lib.hid hK
        go_wp2
        exact hK.out _ _ rfl (Below.refl _ _) (fun h => by cases h)
      refine steps2_cons ?_ ?_
      · as_aux_lemma =>
        intro f w1 hb hd Q hK
        have e43 : f 43 = .pointer (some ⟨G3, 0, none⟩) := hd.1 rfl
        have e42 : f 42 = .bool false := hd.2.1 rfl
        clear hd
        simp only [e43, e42] at hK
        have hK := Lib.hid hK
        have c0 : w1.cell? ⟨G3, 0, none⟩ = some (.int .u64 X1.a0) := (k3.below hb).cell 0
        have c1 : w1.cell? ⟨G3, 1, none⟩ = some (.int .u64 X1.a1) := (k3.below hb).cell 1
        have c2 : w1.cell? ⟨G3, 2, none⟩ = some (.int .u64 X1.a2) := (k3.below hb).cell 2
        have c3 : w1.cell? ⟨G3, 3, none⟩ = some (.int .u64 X1.a3) := (k3.below hb).cell 3
        have c4 : w1.cell? ⟨G3, 4, none⟩ = some (.int .u64 X1.a4) := (k3.below hb).cell 4
        go_wp2
        exact hK.out _ _ rfl (Below.refl _ _) (fun h => by cases h)
      refine steps2_cons ?_ ?_
      · as_aux_lemma =>
        intro f w1 hb hd Q hK
        have e42 : f 42 = .bool false := hd.1 rfl
        clear hd
        simp only [e42] at hK
        have hK := Lib.hid hK
        go_wp2
        exact hK.out _ _ rfl (Below.refl _ _) (fun h => by cases h)
      refine steps2_cons ?_ ?_
      · as_aux_lemma =>
        intro f w1 hb hd Q hK
        have e45 : f 45 = .pointer (some ⟨G3, 10, none⟩) := hd.1 rfl
        have e42 : f 42 = .bool false := hd.2.1 rfl
        clear hd
        simp only [e45, e42] at hK
        have hK := Lib.hid hK
        have c0 : w1.cell? ⟨G3, 10, none⟩ = some (.int .u64 Z1.a0) := (k3.below hb).cell 10
        have c1 : w1.cell? ⟨G3, 11, none⟩ = some (.int .u64 Z1.a1) := (k3.below hb).cell 11
        have c2 : w1.cell? ⟨G3, 12, none⟩ = some (.int .u64 Z1.a2) := (k3.below hb).cell 12
        have c3 : w1.cell? ⟨G3, 13, none⟩ = some (.int .u64 Z1.a3) := (k3.below hb).cell 13
        have c4 : w1.cell? ⟨G3, 14, none⟩ = some (.int .u64 Z1.a4) := (k3.below hb).cell 14
        go_wp2
        exact hK.out _ _ rfl (Below.refl _ _) (fun h => by cases h)
      refine steps2_cons ?_ ?_
      · as_aux_lemma =>
        intro f w1 hb hd Q hK
        have e46 : f 46 = .agg #[.int .u64 Z1.a0, .int .u64 Z1.a1, .int .u64 Z1.a2, .int .u64 Z1.a3, .int .u64 Z1.a4] := hd.1 rfl
        have e42 : f 42 = .bool false := hd.2.1 rfl
        clear hd
        simp only [e46, e42] at hK
        have hK := Lib.hid hK
        go_wp2_with fail
        refine (fInvert hZ1 _).mono ?_
        rintro e w2 ⟨x, rfl, hx, hb2⟩
        go_wp2
        exact hK.out _ _ ⟨x, rfl, hx⟩ hb2 (fun h => by cases h)
      refine steps2_cons ?_ ?_
      · as_aux_lemma =>
        intro f w1 hb hd Q hK
        have e44 : f 44 = .agg #[.int .u64 X1.a0, .int .u64 X1.a1, .int .u64 X1.a2, .int .u64 X1.a3, .int .u64 X1.a4] := hd.1 rfl
        obtain ⟨x47, e47, h47⟩ := (hd.2.1 rfl : ElP (C1 ^ (Fe.P - 2) % Fe.P) (f 47) w1)
        have e42 : f 42 = .bool false := hd.2.2.2.1 rfl
        clear hd
        simp only [e44, e47, e42] at hK
        have hK := Lib.hid hK
        go_wp2_with fail
        refine (fMul hX1 h47 _).mono ?_
        rintro e w2 ⟨x, rfl, hx, hb2⟩
        go_wp2
        exact hK.out _ _ ⟨x, rfl, hx⟩ hb2 (fun h => by cases h)
      refine steps2_cons ?_ ?_
      · as_aux_lemma =>
        intro f w1 hb hd Q hK
        obtain ⟨x48, e48, h48⟩ := (hd.1 rfl : ElP (BX * (C1 ^ (Fe.P - 2) % Fe.P) % Fe.P) (f 48) w1)
        have e42 : f 42 = .bool false := hd.2.2.1 rfl
        clear hd
        simp only [e48, e42] at hK
        have hK := Lib.hid hK
        go_wp2_with fail
        refine (fOddV h48 hO.out _).mono ?_
        rintro e w2 ⟨rfl, hb2⟩
        go_wp2
        exact hK.out _ _ rfl hb2 (fun h => by cases h)
      refine steps2_cons ?_ ?_
      · as_aux_lemma =>
        intro f w1 hb hd Q hK
        have e42 : f 42 = .bool false := hd.1 rfl
        have e49 : f 49 = .bool false := hd.2.1 rfl
        clear hd
        simp only [e42, e49] at hK
        have hK := Lib.hid hK
        go_wp2
        exact hK.out _ _ rfl (Below.refl _ _) (fun h => by cases h)
      trivial
    · intro ff yw hb hf hne
      refine wpList_nil ?_
      have d50 : ff 50 = .bool false := hf 22 _ _ (by decide) rfl rfl
      clear hf hne
      simp only [d50]
      clear d50
      replace hb0 := hb0.trans (hb.mono hb0.size)
      clear hb k3 k5 k6 hX1 hY1 hZ1 hS hO hC6
      go_wp2_with fail
      refine (hPt.out yw hb0).mono ?_
      rintro e w7 ⟨X2, Y2, Z2, T2, rfl, hE2, hb⟩
      replace hb0 := hb0.trans (hb.mono hb0.size)
      clear hb hPt
      obtain ⟨a, bb, cc, d, hX, hY, hZ, hT, hA⟩ := hE2
      obtain ⟨PX, hPX⟩ : ∃ v, ptX n b = v := ⟨_, rfl⟩
      obtain ⟨PY, hPY⟩ : ∃ v, ptY n b = v := ⟨_, rfl⟩
      rw [hPX, hPY] at hA
      clear hPX hPY
      have hxv := Fe.pa_x hA
      have hyv := Fe.pa_y hA
      have hid := curve_id hA.cv
      have hnz : decide (cc = 0) = false := decide_eq_false (fun e => hA.nz (by rw [e]; rfl))
      replace hxv := Lib.hid hxv
      replace hyv := Lib.hid hyv
      replace hid := Lib.hid hid
      replace hnz := Lib.hid hnz
      replace hA := Lib.hid hA
      go_wp2_with (first | (refine stPt rfl rfl rfl rfl (Blk.new _ _ _) rfl rfl (by kernel_rfl) ?_; intro w8 k7 hgr hsz; have q0 : w8.cell? ⟨w7.heap.size, 10, none⟩ = some (.int .u64 Z2.a0) := k7.cell 10; have q1 : w8.cell? ⟨w7.heap.size, 11, none⟩ = some (.int .u64 Z2.a1) := k7.cell 11; have q2 : w8.cell? ⟨w7.heap.size, 12, none⟩ = some (.int .u64 Z2.a2) := k7.cell 12; have q3 : w8.cell? ⟨w7.heap.size, 13, none⟩ = some (.int .u64 Z2.a3) := k7.cell 13; have q4 : w8.cell? ⟨w7.heap.size, 14, none⟩ = some (.int .u64 Z2.a4) := k7.cell 14))
      have hb8 : Below w7.heap.size w7 w8 := ((Below.refl _ _).alloc (Nat.le_refl _) _).grown hgr (by rw [World.size_alloc]; omega) (fun k hk => by injection hk with hk; omega)
      replace hb0 := hb0.trans (hb8.mono hb0.size)
      clear hgr hsz hb8 q0 q1 q2 q3 q4
      obtain ⟨G7, hG7⟩ : ∃ G, G = w7.heap.size := ⟨_, rfl⟩
      rw [← hG7] at k7 ⊢
      clear hG7
      refine (fInvert hZ _).mono ?_
      rintro e w9 ⟨xi, rfl, hxi, hb⟩
      replace k7 := k7.below hb
      replace hb0 := hb0.trans (hb.mono hb0.size)
      clear hb
      obtain ⟨IZ, hIZ⟩ : ∃ v, cc ^ (Fe.P - 2) % Fe.P = v := ⟨_, rfl⟩
      replace hxv := hxv.out
      replace hyv := hyv.out
      rw [hIZ] at hxi hxv hyv
      replace hxv := Lib.hid hxv
      replace hyv := Lib.hid hyv
      clear hIZ
      have l7 := k7.lt
      go_wp2_with fail
      refine at_world (fun w10 hW => ?_)
      have hb : Below w9.heap.size w9 w10 := by rw [hW]; exact (Below.refl _ _).alloc (Nat.le_refl _) _
      have k8 : Blk w10 w9.heap.size 27 #[.int .u64 xi.a0, .int .u64 xi.a1, .int .u64 xi.a2, .int .u64 xi.a3, .int .u64 xi.a4] := by rw [hW]; exact Blk.new _ _ _
      have n_G7_G8' : G7 ≠ w9.heap.size := by omega
      replace k7 := k7.below hb
      replace hb0 := hb0.trans (hb.mono hb0.size)
      clear hW hb l7
      obtain ⟨G8, hG8⟩ : ∃ G, G = w9.heap.size := ⟨_, rfl⟩
      rw [← hG8] at k8 n_G7_G8' ⊢
      clear hG8
      refine wp_region_grow2 10 (fun k => (Nat.ble 9 k && Nat.ble k 10) || (Nat.ble 56 k && Nat.ble k 63)) _ [] (fun j x' q => (cu11L X2 Y2 xi a bb IZ G7 w10.heap.size).getD j (fun _ _ => True) x' q) (fun j => j == 8 || j == 9) (fun f => #[.slice p n c, undef, .bool false, .pointer (some ⟨G3, 0, none⟩), .bool true, .pointer (some ⟨G5, 0, none⟩), .pointer (some ⟨G6, 0, none⟩), .pointer (some ⟨G7, 0, none⟩), .pointer (some ⟨G8, 0, none⟩), f 9, f 10, undef, undef, undef, undef, .bool true, .bool false, .slice p n c, .int .i64 (n : Int), .bool (decide (100 < (n : Int))), .tuple #[.agg (pcs X1 Y1 Z1 T1), .bool true], .agg (pcs X Y Z T), .slice (some ⟨g1, 0, none⟩) 32 32, .tuple #[.agg (pcs X1 Y1 Z1 T1), .bool true], .agg (pcs X1 Y1 Z1 T1), .bool true, .agg #[.int .u64 4, .int .u64 0, .int .u64 0, .int .u64 0, .int .u64 0], .agg #[.int .u64 5, .int .u64 0, .int .u64 0, .int .u64 0, .int .u64 0], ff 28, ff 29, ff 30, ff 31, ff 32, ff 33, ff 34, ff 35, ff 36, ff 37, ff 38, ff 39, ff 40, ff 41, ff 42, ff 43, ff 44, ff 45, ff 46, ff 47, ff 48, ff 49, .bool false, .slice p n c, .agg (pcs X2 Y2 Z2 T2), .pointer (some ⟨G7, 10, none⟩), .agg #[.int .u64 Z2.a0, .int .u64 Z2.a1, .int .u64 Z2.a2, .int .u64 Z2.a3, .int .u64 Z2.a4], .agg #[.int .u64 xi.a0, .int .u64 xi.a1, .int .u64 xi.a2, .int .u64 xi.a3, .int .u64 xi.a4], f 56, f 57, f 58, f 59, f 60, f 61, f 62, f 63, undef, undef, undef, undef, undef, undef, undef, undef, undef, undef, undef, undef, undef, undef, undef, undef, undef, undef, undef, undef, undef, undef, undef, undef, undef, undef]) (fun f => rfl) (by kernel_rfl) (by kernel_rfl) (by kernel_rfl) (by kernel_rfl) (by kernel_rfl) (cu11S _ _ _ _ _ _ _ _) (cu11O _ _ _ _ _ _ _ _) ?_ ?_
      · refine steps2_cons ?_ ?_
        · as_aux_lemma =>
          intro f w1 hb hd Q hK
          clear hd
          have hK := Lib.hid hK
          go_wp2
          exact hK.out _ _ rfl (Below.refl _ _) (fun h => by cases h)
        refine steps2_cons ?_ ?_
        · as_aux_lemma =>
          intro f w1 hb hd Q hK
          have e56 : f 56 = .pointer (some ⟨G7, 0, none⟩) := hd.1 rfl
          clear hd
          simp only [e56] at hK
          have hK := Lib.hid hK
          have c0 : w1.cell? ⟨G7, 0, none⟩ = some (.int .u64 X2.a0) := (k7.below hb).cell 0
          have c1 : w1.cell? ⟨G7, 1, none⟩ = some (.int .u64 X2.a1) := (k7.below hb).cell 1
          have c2 : w1.cell? ⟨G7, 2, none⟩ = some (.int .u64 X2.a2) := (k7.below hb).cell 2
          have c3 : w1.cell? ⟨G7, 3, none⟩ = some (.int .u64 X2.a3) := (k7.below hb).cell 3
          have c4 : w1.cell? ⟨G7, 4, none⟩ = some (.int .u64 X2.a4) := (k7.below hb).cell 4
          go_wp2
          exact hK.out _ _ rfl (Below.refl _ _) (fun h => by cases h)
        refine steps2_cons ?_ ?_
        · as_aux_lemma =>
          intro f w1 hb hd Q hK
          clear hd
          have hK := Lib.hid hK
          have c0 : w1.cell? ⟨G8, 0, none⟩ = some (.int .u64 xi.a0) := (k8.below hb).cell 0
          have c1 : w1.cell? ⟨G8, 1, none⟩ = some (.int .u64 xi.a1) := (k8.below hb).cell 1
          have c2 : w1.cell? ⟨G8, 2, none⟩ = some (.int .u64 xi.a2) := (k8.below hb).cell 2
          have c3 : w1.cell? ⟨G8, 3, none⟩ = some (.int .u64 xi.a3) := (k8.below hb).cell 3
          have c4 : w1.cell? ⟨G8, 4, none⟩ = some (.int .u64 xi.a4) := (k8.below hb).cell 4
          go_wp2
          exact hK.out _ _ rfl (Below.refl _ _) (fun h => by cases h)
        refine steps2_cons ?_ ?_
        · as_aux_lemma =>
          intro f w1 hb hd Q hK
          have e57 : f 57 = .agg #[.int .u64 X2.a0, .int .u64 X2.a1, .int .u64 X2.a2, .int .u64 X2.a3, .int .u64 X2.a4] := hd.1 rfl
          have e58 : f 58 = .agg #[.int .u64 xi.a0, .int .u64 xi.a1, .int .u64 xi.a2, .int .u64 xi.a3, .int .u64 xi.a4] := hd.2.1 rfl
          clear hd
          simp only [e57, e58] at hK
          have hK := Lib.hid hK
          go_wp2_with fail
          refine (fMul hX hxi _).mono ?_
          rintro e w2 ⟨x, rfl, hx, hb2⟩
          go_wp2
          exact hK.out _ _ ⟨x, rfl, hx⟩ hb2 (fun h => by cases h)
        refine steps2_cons ?_ ?_
        · as_aux_lemma =>
          intro f w1 hb hd Q hK
          clear hd
          have hK := Lib.hid hK
          go_wp2
          exact hK.out _ _ rfl (Below.refl _ _) (fun h => by cases h)
        refine steps2_cons ?_ ?_
        · as_aux_lemma =>
          intro f w1 hb hd Q hK
          have e60 : f 60 = .pointer (some ⟨G7, 5, none⟩) := hd.1 rfl
          clear hd
          simp only [e60] at hK
          have hK := Lib.hid hK
          have c0 : w1.cell? ⟨G7, 5, none⟩ = some (.int .u64 Y2.a0) := (k7.below hb).cell 5
          have c1 : w1.cell? ⟨G7, 6, none⟩ = some (.int .u64 Y2.a1) := (k7.below hb).cell 6
          have c2 : w1.cell? ⟨G7, 7, none⟩ = some (.int .u64 Y2.a2) := (k7.below hb).cell 7
          have c3 : w1.cell? ⟨G7, 8, none⟩ = some (.int .u64 Y2.a3) := (k7.below hb).cell 8
          have c4 : w1.cell? ⟨G7, 9, none⟩ = some (.int .u64 Y2.a4) := (k7.below hb).cell 9
          go_wp2
          exact hK.out _ _ rfl (Below.refl _ _) (fun h => by cases h)
        refine steps2_cons ?_ ?_
        · as_aux_lemma =>
          intro f w1 hb hd Q hK
          clear hd
          have hK := Lib.hid hK
          have c0 : w1.cell? ⟨G8, 0, none⟩ = some (.int .u64 xi.a0) := (k8.below hb).cell 0
          have c1 : w1.cell? ⟨G8, 1, none⟩ = some (.int .u64 xi.a1) := (k8.below hb).cell 1
          have c2 : w1.cell? ⟨G8, 2, none⟩ = some (.int .u64 xi.a2) := (k8.below hb).cell 2
          have c3 : w1.cell? ⟨G8, 3, none⟩ = some (.int .u64 xi.a3) := (k8.below hb).cell 3
          have c4 : w1.cell? ⟨G8, 4, none⟩ = some (.int .u64 xi.a4) := (k8.below hb).cell 4
          go_wp2
          exact hK.out _ _ rfl (Below.refl _ _) (fun h => by cases h)
        refine steps2_cons ?_ ?_
        · as_aux_lemma =>
          intro f w1 hb hd Q hK
          have e61 : f 61 = .agg #[.int .u64 Y2.a0, .int .u64 Y2.a1, .int .u64 Y2.a2, .int .u64 Y2.a3, .int .u64 Y2.a4] := hd.1 rfl
          have e62 : f 62 = .agg #[.int .u64 xi.a0, .int .u64 xi.a1, .int .u64 xi.a2, .int .u64 xi.a3, .int .u64 xi.a4] := hd.2.1 rfl
          clear hd
          simp only [e61, e62] at hK
          have hK := Lib.hid hK
          go_wp2_with fail
          refine (fMul hY hxi _).mono ?_
          rintro e w2 ⟨x, rfl, hx, hb2⟩
          go_wp2
          exact hK.out _ _ ⟨x, rfl, hx⟩ hb2 (fun h => by cases h)
        refine steps2_cons ?_ ?_
        · as_aux_lemma =>
          intro f w1 hb hd Q hK
          clear hd
          have hK := Lib.hid hK
          have hsz := hb.size
          go_wp2
          exact hK.out _ _ ⟨_, rfl, hsz, Blk.new _ _ _⟩ ((Below.refl _ _).alloc (Nat.le_refl _) _) (fun _ => ⟨_, rfl, Nat.le_refl _⟩)
        refine steps2_cons ?_ ?_
        · as_aux_lemma =>
          intro f w1 hb hd Q hK
          clear hd
          have hK := Lib.hid hK
          have hsz := hb.size
          go_wp2
          exact hK.out _ _ ⟨_, rfl, hsz, Blk.new _ _ _⟩ ((Below.refl _ _).alloc (Nat.le_refl _) _) (fun _ => ⟨_, rfl, Nat.le_refl _⟩)
        trivial
      · intro ff11 yw11 hb hf hne
        obtain ⟨g9, d9, lo9, bk9⟩ : NewB w10.heap.size 27 #[.int .u64 0, .int .u64 0, .int .u64 0, .int .u64 0, .int .u64 0] (ff11 9) yw11 := hf 8 _ _ (by decide) rfl rfl
        obtain ⟨g10, d10, lo10, bk10⟩ : NewB w10.heap.size 27 #[.int .u64 0, .int .u64 0, .int .u64 0, .int .u64 0, .int .u64 0] (ff11 10) yw11 := hf 9 _ _ (by decide) rfl rfl
        obtain ⟨x59, d59, h59⟩ : ElP (a * IZ % Fe.P) (ff11 59) yw11 := hf 3 _ _ (by decide) rfl rfl
        obtain ⟨x63, d63, h63⟩ : ElP (bb * IZ % Fe.P) (ff11 63) yw11 := hf 7 _ _ (by decide) rfl rfl
        clear hf
        have LS := hb0.size
        have n_g9_g10 : g9 ≠ g10 := by
          have := hne 8 9 _ _ _ _ (by decide) (by decide) (by decide) rfl rfl rfl rfl rfl rfl
          rw [d9, d10] at this
          exact fun h => this (by rw [h])
        clear hne
        have n_G7_g9 : G7 ≠ g9 := by have := k7.lt; omega
        have n_G8_g9 : G8 ≠ g9 := by have := k8.lt; omega
        have l_g9 : w.heap.size ≤ g9 := by omega
        have n_G7_g10 : G7 ≠ g10 := by have := k7.lt; omega
        have n_G8_g10 : G8 ≠ g10 := by have := k8.lt; omega
        have l_g10 : w.heap.size ≤ g10 := by omega
        clear LS lo9 lo10
        simp only [d9, d10, d59, d63]
        clear d9 d10 d59 d63
        replace k7 := k7.below hb
        replace k8 := k8.below hb
        replace hb0 := hb0.trans (hb.mono hb0.size)
        clear hb
        (refine stEl rfl rfl rfl rfl bk9 rfl ?_; intro w11 nk hgr hsz; clear bk9; have k9 := nk; clear nk; replace k7 := k7.grown hgr (fun h => n_G7_g9 (by injection h)); replace k8 := k8.grown hgr (fun h => n_G8_g9 (by injection h)); replace bk10 := bk10.grown hgr (fun h => n_g9_g10.symm (by injection h)); replace hb0 := hb0.grown hgr hb0.size (fun k hk => by injection hk with hk; have := l_g9; omega); clear hgr hsz)
        (refine stEl rfl rfl rfl rfl bk10 rfl ?_; intro w12 nk hgr hsz; clear bk10; have k10 := nk; clear nk; replace k7 := k7.grown hgr (fun h => n_G7_g10 (by injection h)); replace k8 := k8.grown hgr (fun h => n_G8_g10 (by injection h)); replace k9 := k9.grown hgr (fun h => n_g9_g10 (by injection h)); replace hb0 := hb0.grown hgr hb0.size (fun k hk => by injection hk with hk; have := l_g10; omega); clear hgr hsz)
        refine wpList_nil ?_
        go_wp2
        rw [hxv.out] at h59
        rw [hyv.out] at h63
        obtain ⟨NX, hNX⟩ : ∃ v, PX.val = v := ⟨_, rfl⟩
        obtain ⟨NY, hNY⟩ : ∃ v, PY.val = v := ⟨_, rfl⟩
        replace hid := hid.out
        rw [hNX, hNY] at hid
        rw [hNX] at h59
        rw [hNY] at h63
        replace hid := Lib.hid hid
        clear hxv hyv hNX hNY hA
        refine wp_region_grow2 6 (fun k => (Nat.ble 11 k && Nat.ble k 12) || (Nat.ble 64 k && Nat.ble k 67)) _ [] (fun j x' q => (cu12L x59 x63 NX NY w12.heap.size).getD j (fun _ _ => True) x' q) (fun j => j == 4 || j == 5) (fun f => #[.slice p n c, undef, .bool false, .pointer (some ⟨G3, 0, none⟩), .bool true, .pointer (some ⟨G5, 0, none⟩), .pointer (some ⟨G6, 0, none⟩), .pointer (some ⟨G7, 0, none⟩), .pointer (some ⟨G8, 0, none⟩), .pointer (some ⟨g9, 0, none⟩), .pointer (some ⟨g10, 0, none⟩), f 11, f 12, undef, undef, .bool true, .bool false, .slice p n c, .int .i64 (n : Int), .bool (decide (100 < (n : Int))), .tuple #[.agg (pcs X1 Y1 Z1 T1), .bool true], .agg (pcs X Y Z T), .slice (some ⟨g1, 0, none⟩) 32 32, .tuple #[.agg (pcs X1 Y1 Z1 T1), .bool true], .agg (pcs X1 Y1 Z1 T1), .bool true, .agg #[.int .u64 4, .int .u64 0, .int .u64 0, .int .u64 0, .int .u64 0], .agg #[.int .u64 5, .int .u64 0, .int .u64 0, .int .u64 0, .int .u64 0], ff 28, ff 29, ff 30, ff 31, ff 32, ff 33, ff 34, ff 35, ff 36, ff 37, ff 38, ff 39, ff 40, ff 41, ff 42, ff 43, ff 44, ff 45, ff 46, ff 47, ff 48, ff 49, .bool false, .slice p n c, .agg (pcs X2 Y2 Z2 T2), .pointer (some ⟨G7, 10, none⟩), .agg #[.int .u64 Z2.a0, .int .u64 Z2.a1, .int .u64 Z2.a2, .int .u64 Z2.a3, .int .u64 Z2.a4], .agg #[.int .u64 xi.a0, .int .u64 xi.a1, .int .u64 xi.a2, .int .u64 xi.a3, .int .u64 xi.a4], ff11 56, ff11 57, ff11 58, .agg #[.int .u64 x59.a0, .int .u64 x59.a1, .int .u64 x59.a2, .int .u64 x59.a3, .int .u64 x59.a4], ff11 60, ff11 61, ff11 62, .agg #[.int .u64 x63.a0, .int .u64 x63.a1, .int .u64 x63.a2, .int .u64 x63.a3, .int .u64 x63.a4], f 64, f 65, f 66, f 67, undef, undef, undef, undef, undef, undef, undef, undef, undef, undef, undef, undef, undef, undef, undef, undef, undef, undef, undef, undef, undef, undef]) (fun f => rfl) (by kernel_rfl) (by kernel_rfl) (by kernel_rfl) (by kernel_rfl) (by kernel_rfl) (cu12S _ _ _ _ _) (cu12O _ _ _ _ _) ?_ ?_
        · refine steps2_cons ?_ ?_
          · as_aux_lemma =>
            intro f w1 hb hd Q hK
            clear hd
            have hK := Lib.hid hK
            have c0 : w1.cell? ⟨g9, 0, none⟩ = some (.int .u64 x59.a0) := (k9.below hb).cell 0
            have c1 : w1.cell? ⟨g9, 1, none⟩ = some (.int .u64 x59.a1) := (k9.below hb).cell 1
            have c2 : w1.cell? ⟨g9, 2, none⟩ = some (.int .u64 x59.a2) := (k9.below hb).cell 2
            have c3 : w1.cell? ⟨g9, 3, none⟩ = some (.int .u64 x59.a3) := (k9.below hb).cell 3
            have c4 : w1.cell? ⟨g9, 4, none⟩ = some (.int .u64 x59.a4) := (k9.below hb).cell 4
            go_wp2
            exact hK.out _ _ rfl (Below.refl _ _) (fun h => by cases h)
          refine steps2_cons ?_ ?_
          · as_aux_lemma =>
            intro f w1 hb hd Q hK
            have e64 : f 64 = .agg #[.int .u64 x59.a0, .int .u64 x59.a1, .int .u64 x59.a2, .int .u64 x59.a3, .int .u64 x59.a4] := hd.1 rfl
            clear hd
            simp only [e64] at hK
            have hK := Lib.hid hK
            go_wp2_with fail
            refine (fSquare h59 _).mono ?_
            rintro e w2 ⟨x, rfl, hx, hb2⟩
            go_wp2
            exact hK.out _ _ ⟨x, rfl, hx⟩ hb2 (fun h => by cases h)
          refine steps2_cons ?_ ?_
          · as_aux_lemma =>
            intro f w1 hb hd Q hK
            clear hd
            have hK := Lib.hid hK
            have c0 : w1.cell? ⟨g10, 0, none⟩ = some (.int .u64 x63.a0) := (k10.below hb).cell 0
            have c1 : w1.cell? ⟨g10, 1, none⟩ = some (.int .u64 x63.a1) := (k10.below hb).cell 1
            have c2 : w1.cell? ⟨g10, 2, none⟩ = some (.int .u64 x63.a2) := (k10.below hb).cell 2
            have c3 : w1.cell? ⟨g10, 3, none⟩ = some (.int .u64 x63.a3) := (k10.below hb).cell 3
            have c4 : w1.cell? ⟨g10, 4, none⟩ = some (.int .u64 x63.a4) := (k10.below hb).cell 4
            go_wp2
            exact hK.out _ _ rfl (Below.refl _ _) (fun h => by cases h)
          refine steps2_cons ?_ ?_
          · as_aux_lemma =>
            intro f w1 hb hd Q hK
            have e66 : f 66 = .agg #[.int .u64 x63.a0, .int .u64 x63.a1, .int .u64 x63.a2, .int .u64 x63.a3, .int .u64 x63.a4] := hd.1 rfl
            clear hd
            simp only [e66] at hK
            have hK := Lib.hid hK
            go_wp2_with fail
            refine (fSquare h63 _).mono ?_
            rintro e w2 ⟨x, rfl, hx, hb2⟩
            go_wp2
            exact hK.out _ _ ⟨x, rfl, hx⟩ hb2 (fun h => by cases h)
          refine steps2_cons ?_ ?_
          · as_aux_lemma =>
            intro f w1 hb hd Q hK
            clear hd
            have hK := Lib.hid hK
            have hsz := hb.size
            go_wp2
            exact hK.out _ _ ⟨_, rfl, hsz, Blk.new _ _ _⟩ ((Below.refl _ _).alloc (Nat.le_refl _) _) (fun _ => ⟨_, rfl, Nat.le_refl _⟩)
          refine steps2_cons ?_ ?_
          · as_aux_lemma =>
            intro f w1 hb hd Q hK
            clear hd
            have hK := Lib.hid hK
            have hsz := hb.size
            go_wp2
            exact hK.out _ _ ⟨_, rfl, hsz, Blk.new _ _ _⟩ ((Below.refl _ _).alloc (Nat.le_refl _) _) (fun _ => ⟨_, rfl, Nat.le_refl _⟩)
          trivial
        · intro ff12 yw12 hb hf hne
          obtain ⟨g11, d11, lo11, bk11⟩ : NewB w12.heap.size 27 #[.int .u64 0, .int .u64 0, .int .u64 0, .int .u64 0, .int .u64 0] (ff12 11) yw12 := hf 4 _ _ (by decide) rfl rfl
          obtain ⟨g12, d12, lo12, bk12⟩ : NewB w12.heap.size 27 #[.int .u64 0, .int .u64 0, .int .u64 0, .int .u64 0, .int .u64 0] (ff12 12) yw12 := hf 5 _ _ (by decide) rfl rfl
          obtain ⟨x65, d65, h65⟩ : ElP (NX * NX % Fe.P) (ff12 65) yw12 := hf 1 _ _ (by decide) rfl rfl
          obtain ⟨x67, d67, h67⟩ : ElP (NY * NY % Fe.P) (ff12 67) yw12 := hf 3 _ _ (by decide) rfl rfl
          clear hf
          have LS := hb0.size
          have n_g11_g12 : g11 ≠ g12 := by
            have := hne 4 5 _ _ _ _ (by decide) (by decide) (by decide) rfl rfl rfl rfl rfl rfl
            rw [d11, d12] at this
            exact fun h => this (by rw [h])
          clear hne
          have n_G7_g11 : G7 ≠ g11 := by have := k7.lt; omega
          have n_G8_g11 : G8 ≠ g11 := by have := k8.lt; omega
          have n_g9_g11 : g9 ≠ g11 := by have := k9.lt; omega
          have n_g10_g11 : g10 ≠ g11 := by have := k10.lt; omega
          have l_g11 : w.heap.size ≤ g11 := by omega
          have n_G7_g12 : G7 ≠ g12 := by have := k7.lt; omega
          have n_G8_g12 : G8 ≠ g12 := by have := k8.lt; omega
          have n_g9_g12 : g9 ≠ g12 := by have := k9.lt; omega
          have n_g10_g12 : g10 ≠ g12 := by have := k10.lt; omega
          have l_g12 : w.heap.size ≤ g12 := by omega
          clear LS lo11 lo12
          simp only [d11, d12, d65, d67]
          clear d11 d12 d65 d67
          replace k7 := k7.below hb
          replace k8 := k8.below hb
          replace k9 := k9.below hb
          replace k10 := k10.below hb
          replace hb0 := hb0.trans (hb.mono hb0.size)
          clear hb
          (refine stEl rfl rfl rfl rfl bk11 rfl ?_; intro w13 nk hgr hsz; clear bk11; have k11 := nk; clear nk; replace k7 := k7.grown hgr (fun h => n_G7_g11 (by injection h)); replace k8 := k8.grown hgr (fun h => n_G8_g11 (by injection h)); replace k9 := k9.grown hgr (fun h => n_g9_g11 (by injection h)); replace k10 := k10.grown hgr (fun h => n_g10_g11 (by injection h)); replace bk12 := bk12.grown hgr (fun h => n_g11_g12.symm (by injection h)); replace hb0 := hb0.grown hgr hb0.size (fun k hk => by injection hk with hk; have := l_g11; omega); clear hgr hsz)
          (refine stEl rfl rfl rfl rfl bk12 rfl ?_; intro w14 nk hgr hsz; clear bk12; have k12 := nk; clear nk; replace k7 := k7.grown hgr (fun h => n_G7_g12 (by injection h)); replace k8 := k8.grown hgr (fun h => n_G8_g12 (by injection h)); replace k9 := k9.grown hgr (fun h => n_g9_g12 (by injection h)); replace k10 := k10.grown hgr (fun h => n_g10_g12 (by injection h)); replace k11 := k11.grown hgr (fun h => n_g11_g12 (by injection h)); replace hb0 := hb0.grown hgr hb0.size (fun k hk => by injection hk with hk; have := l_g12; omega); clear hgr hsz)
          refine wpList_nil ?_
          have q0 : w14.cell? ⟨g11, 0, none⟩ = some (.int .u64 x65.a0) := k11.cell 0
          have q1 : w14.cell? ⟨g11, 1, none⟩ = some (.int .u64 x65.a1) := k11.cell 1
          have q2 : w14.cell? ⟨g11, 2, none⟩ = some (.int .u64 x65.a2) := k11.cell 2
          have q3 : w14.cell? ⟨g11, 3, none⟩ = some (.int .u64 x65.a3) := k11.cell 3
          have q4 : w14.cell? ⟨g11, 4, none⟩ = some (.int .u64 x65.a4) := k11.cell 4
          have r0 : w14.cell? ⟨g12, 0, none⟩ = some (.int .u64 x67.a0) := k12.cell 0
          have r1 : w14.cell? ⟨g12, 1, none⟩ = some (.int .u64 x67.a1) := k12.cell 1
          have r2 : w14.cell? ⟨g12, 2, none⟩ = some (.int .u64 x67.a2) := k12.cell 2
          have r3 : w14.cell? ⟨g12, 3, none⟩ = some (.int .u64 x67.a3) := k12.cell 3
          have r4 : w14.cell? ⟨g12, 4, none⟩ = some (.int .u64 x67.a4) := k12.cell 4
          have l11 := k11.lt
          have l12 := k12.lt
          go_wp2_with fail
          refine (fSub h67 h65 _).mono ?_
          rintro e w15 ⟨xa, rfl, hxa, hb⟩
          replace k7 := k7.below hb
          replace k8 := k8.below hb
          replace k9 := k9.below hb
          replace k10 := k10.below hb
          replace k11 := k11.below hb
          replace k12 := k12.below hb
          replace hb0 := hb0.trans (hb.mono hb0.size)
          clear hb q0 q1 q2 q3 q4 r0 r1 r2 r3 r4 l11 l12
          go_wp2_with fail
          refine (fOne _).mono ?_
          rintro e w16 ⟨rfl, hb⟩
          replace k7 := k7.below hb
          replace k8 := k8.below hb
          replace k9 := k9.below hb
          replace k10 := k10.below hb
          replace k11 := k11.below hb
          replace k12 := k12.below hb
          replace hb0 := hb0.trans (hb.mono hb0.size)
          clear hb
          go_wp2_with fail
          refine (fSub hxa el_one _).mono ?_
          rintro e w17 ⟨xb, rfl, hxb, hb⟩
          replace k7 := k7.below hb
          replace k8 := k8.below hb
          replace k9 := k9.below hb
          replace k10 := k10.below hb
          replace k11 := k11.below hb
          replace k12 := k12.below hb
          replace hb0 := hb0.trans (hb.mono hb0.size)
          clear hb
          go_wp2_with fail
          refine (fMul el_d2 hxb _).mono ?_
          rintro e w18 ⟨xc, rfl, hxc, hb⟩
          replace k7 := k7.below hb
          replace k8 := k8.below hb
          replace k9 := k9.below hb
          replace k10 := k10.below hb
          replace k11 := k11.below hb
          replace k12 := k12.below hb
          replace hb0 := hb0.trans (hb.mono hb0.size)
          clear hb
          have l11 := k11.lt
          have l12 := k12.lt
          have l7 := k7.lt
          have q0 : w18.cell? ⟨g11, 0, none⟩ = some (.int .u64 x65.a0) := k11.cell 0
          have q1 : w18.cell? ⟨g11, 1, none⟩ = some (.int .u64 x65.a1) := k11.cell 1
          have q2 : w18.cell? ⟨g11, 2, none⟩ = some (.int .u64 x65.a2) := k11.cell 2
          have q3 : w18.cell? ⟨g11, 3, none⟩ = some (.int .u64 x65.a3) := k11.cell 3
          have q4 : w18.cell? ⟨g11, 4, none⟩ = some (.int .u64 x65.a4) := k11.cell 4
          have r0 : w18.cell? ⟨g12, 0, none⟩ = some (.int .u64 x67.a0) := k12.cell 0
          have r1 : w18.cell? ⟨g12, 1, none⟩ = some (.int .u64 x67.a1) := k12.cell 1
          have r2 : w18.cell? ⟨g12, 2, none⟩ = some (.int .u64 x67.a2) := k12.cell 2
          have r3 : w18.cell? ⟨g12, 3, none⟩ = some (.int .u64 x67.a3) := k12.cell 3
          have r4 : w18.cell? ⟨g12, 4, none⟩ = some (.int .u64 x67.a4) := k12.cell 4
          go_wp2_with fail
          refine calls_at (fun w19 hW => ?_)
          have hb : Below w18.heap.size w18 w19 := by rw [hW]; exact (Below.refl _ _).alloc (Nat.le_refl _) _
          have k13 : Blk w19 w18.heap.size 27 #[.int .u64 xc.a0, .int .u64 xc.a1, .int .u64 xc.a2, .int .u64 xc.a3, .int .u64 xc.a4] := by rw [hW]; exact Blk.new _ _ _
          replace k7 := k7.below hb
          replace k8 := k8.below hb
          replace k9 := k9.below hb
          replace k10 := k10.below hb
          replace k11 := k11.below hb
          replace k12 := k12.below hb
          replace hb0 := hb0.trans (hb.mono hb0.size)
          clear hW hb q0 q1 q2 q3 q4 r0 r1 r2 r3 r4 l11 l12 l7
          obtain ⟨g13, hG13⟩ : ∃ G, G = w18.heap.size := ⟨_, rfl⟩
          rw [← hG13] at k13 ⊢
          clear hG13
          refine (fMul h65 h67 _).mono ?_
          rintro e w20 ⟨xd, rfl, hxd, hb⟩
          replace k7 := k7.below hb
          replace k8 := k8.below hb
          replace k9 := k9.below hb
          replace k10 := k10.below hb
          replace k11 := k11.below hb
          replace k12 := k12.below hb
          replace hb0 := hb0.trans (hb.mono hb0.size)
          replace k13 := k13.below hb
          clear hb
          go_wp2_with fail
          refine (fMul el_d1 hxd _).mono ?_
          rintro e w21 ⟨xe, rfl, hxe, hb⟩
          replace k7 := k7.below hb
          replace k8 := k8.below hb
          replace k9 := k9.below hb
          replace k10 := k10.below hb
          replace k11 := k11.below hb
          replace k12 := k12.below hb
          replace hb0 := hb0.trans (hb.mono hb0.size)
          replace k13 := k13.below hb
          clear hb
          go_wp2_with fail
          refine (fNeg hxe _).mono ?_
          rintro e w22 ⟨xf, rfl, hxf, hb⟩
          replace k7 := k7.below hb
          replace k8 := k8.below hb
          replace k9 := k9.below hb
          replace k10 := k10.below hb
          replace k11 := k11.below hb
          replace k12 := k12.below hb
          replace hb0 := hb0.trans (hb.mono hb0.size)
          replace k13 := k13.below hb
          clear hb
          have l13 := k13.lt
          have q0 : w22.cell? ⟨g13, 0, none⟩ = some (.int .u64 xc.a0) := k13.cell 0
          have q1 : w22.cell? ⟨g13, 1, none⟩ = some (.int .u64 xc.a1) := k13.cell 1
          have q2 : w22.cell? ⟨g13, 2, none⟩ = some (.int .u64 xc.a2) := k13.cell 2
          have q3 : w22.cell? ⟨g13, 3, none⟩ = some (.int .u64 xc.a3) := k13.cell 3
          have q4 : w22.cell? ⟨g13, 4, none⟩ = some (.int .u64 xc.a4) := k13.cell 4
          go_wp2_with fail
          refine calls_at (fun w23 hW => ?_)
          have hb : Below w22.heap.size w22 w23 := by rw [hW]; exact (Below.refl _ _).alloc (Nat.le_refl _) _
          replace k7 := k7.below hb
          replace k8 := k8.below hb
          replace k9 := k9.below hb
          replace k10 := k10.below hb
          replace k11 := k11.below hb
          replace k12 := k12.below hb
          replace hb0 := hb0.trans (hb.mono hb0.size)
          clear hW hb q0 q1 q2 q3 q4 l13
          refine (fSameV hxc hxf hid.out _).mono ?_
          rintro e w24 ⟨rfl, hb⟩
          replace k7 := k7.below hb
          replace k8 := k8.below hb
          replace k9 := k9.below hb
          replace k10 := k10.below hb
          replace k11 := k11.below hb
          replace k12 := k12.below hb
          replace hb0 := hb0.trans (hb.mono hb0.size)
          clear hb
          have q0 : w24.cell? ⟨G7, 10, none⟩ = some (.int .u64 Z2.a0) := k7.cell 10
          have q1 : w24.cell? ⟨G7, 11, none⟩ = some (.int .u64 Z2.a1) := k7.cell 11
          have q2 : w24.cell? ⟨G7, 12, none⟩ = some (.int .u64 Z2.a2) := k7.cell 12
          have q3 : w24.cell? ⟨G7, 13, none⟩ = some (.int .u64 Z2.a3) := k7.cell 13
          have q4 : w24.cell? ⟨G7, 14, none⟩ = some (.int .u64 Z2.a4) := k7.cell 14
          go_wp2_with fail
          refine (fZeroV hZ hnz.out _).mono ?_
          rintro e w25 ⟨rfl, hb⟩
          have hP := Lib.hid (hb0.trans (hb.mono hb0.size))
          clear hb hb0 q0 q1 q2 q3 q4 k7 k8 k9 k10 k11 k12 k13
          go_wp2
          go_returns
          exact ⟨rfl, hP.out⟩
  · have hni : (100 : Int) < (n : Int) := by omega
    replace hCv := Lib.hid hCv
    clear hB hr hn
    go_enter Tryd.func5, Tryd.ntmps5
    go_wp2_with fail
    refine (awake4_c w hCv.out).mono ?_
    rintro e w1 ⟨rfl, hb0⟩
    replace hb0 := Lib.hid hb0
    go_wp2
    go_returns
    exact ⟨rfl, hb0.out⟩
end Go.Proofs.YtpaldgajkhmhbaaDoor

namespace Go.Proofs.YtpaldgajkhmhbaaDoor
open Go.RowKit Go.WideShapes Go.ChangeShapes
section
variable {H : Type} {enc : TypeId × Value → H} {P : Program}
theorem post_of_below {f : Func} {s : ChangeSpec} {apart fresh handsOn again : Bool} {W W' : World} {args : Array Value} {v : Value} {ds gs : List (DataW H)} {before pa pv : List MemPlace}
    (hW : DataW.Whole enc P f.params.toList s.vars apart W args.toList ds gs before)
    (hres : ∀ (b : Nat) (sp : Nat → Bool) (hd : Bool), DataW.TrodAll enc P W' b sp hd f.resultTypes.toList (v.resultList f.resultTypes.size) (s.fn H (ds ++ gs)).results [])
    (hargs : ∀ sp : Nat → Bool, (∀ p ∈ before, sp p.block = true) → DataW.TrodAll enc P W' 0 sp true f.params.toList args.toList (s.fn H (ds ++ gs)).args pa)
    (hvars : ∀ sp : Nat → Bool, (∀ p ∈ before, sp p.block = true) → DataW.TrodVars enc P W' sp s.vars (s.fn H (ds ++ gs)).vars pv)
    (hps : before = pa ++ pv) (hb : Below W.heap.size W W')
    (hok : ∀ (j : Nat) (t : TypeId) (r : Value), f.resultTypes[j]? = some t → (v.resultList f.resultTypes.size)[j]? = some r → Value.okWide P W' .any 0 t r) :
    s.post enc P f apart fresh handsOn again W args v W' := by
  have hlt : ∀ p ∈ before, p.block < W.heap.size := fun p hp => hW.lt p hp
  have hold : ∀ p ∈ before, (fun b => decide (b < W.heap.size)) p.block = true := fun p hp => by simpa using hlt p hp
  refine ⟨ds, gs, before, [], pa, pv, hW, hres _ _ _, hargs _ hold, hvars _ hold, World.keptBut_mono (fun p hp => ⟨hp, ?_⟩) (hb.frame (· ∈ before)), fun _ => ?_⟩
  · rw [hps, List.mem_append] at hp
    exact Or.inr hp
  · obtain ⟨_, _, _, _, _, hz, hn⟩ := hW
    refine ⟨hok, _, _, ([] ++ pa) ++ pv, ⟨[] ++ pa, pv, trodAll_append (hargs _ (fun _ _ => rfl)) (hres _ _ _), hvars _ (fun _ _ => rfl), rfl, ?_, ?_⟩, ?_⟩
    · intro b off hp
      have hin : MemPlace.cell b off ∈ before := by rw [hps]; simpa using hp
      rw [hb.frozen (hlt _ hin)]
      exact hz b off hin
    · intro ha
      have := hn ha
      rw [hps] at this
      simpa using this
    · intro p hp _
      rw [hps]
      simpa using hp
end
end Go.Proofs.YtpaldgajkhmhbaaDoor

namespace Go.Proofs.YtpaldgajkhmhbaaDoor
open Go.ChangeShapes Go.WideShapes Go.ChangeAt Go.RowKit
section
variable {H : Type} {enc : TypeId × Value → H} {P : Program} {w : World} {base : Nat} {spare : Nat → Bool} {held : Bool}
theorem trod_array5 {t e : TypeId} {fuel : Nat} {cs : List Value} {x : DataW H × List MemPlace} (ht : P.underlying t = some (.array 5 e)) (hce : P.cellsOf e = 1) (hct : P.cellsOf t = 5)
    (h : DataW.trod enc P w base spare held fuel t cs = some x) : ∃ c0 c1 c2 c3 c4, cs = [c0, c1, c2, c3, c4] ∧
    ∃ y0 y1 y2 y3 y4 n, x = (.agg [y0.1, y1.1, y2.1, y3.1, y4.1], y0.2 ++ (y1.2 ++ (y2.2 ++ (y3.2 ++ y4.2)))) ∧ DataW.trod enc P w base spare held n e [c0] = some y0 ∧ DataW.trod enc P w base spare held n e [c1] = some y1 ∧ DataW.trod enc P w base spare held n e [c2] = some y2 ∧ DataW.trod enc P w base spare held n e [c3] = some y3 ∧ DataW.trod enc P w base spare held n e [c4] = some y4 := by
  cases fuel with
  | zero => simp [DataW.trod] at h
  | succ n =>
    unfold DataW.trod at h
    rw [ht] at h
    have r5 : List.range 5 = [0, 1, 2, 3, 4] := rfl
    simp [r5, hce, hct] at h
    obtain ⟨hl, h⟩ := h
    match cs, hl, h with
    | [c0, c1, c2, c3, c4], _, h =>
      refine ⟨c0, c1, c2, c3, c4, rfl, ?_⟩
      simp at h
      cases h0 : DataW.trod enc P w base spare held n e [c0] with
      | none => simp [h0] at h
      | some y0 =>
        cases h1 : DataW.trod enc P w base spare held n e [c1] with
        | none => simp [h0, h1] at h
        | some y1 =>
          cases h2 : DataW.trod enc P w base spare held n e [c2] with
          | none => simp [h0, h1, h2] at h
          | some y2 =>
            cases h3 : DataW.trod enc P w base spare held n e [c3] with
            | none => simp [h0, h1, h2, h3] at h
            | some y3 =>
              cases h4 : DataW.trod enc P w base spare held n e [c4] with
              | none => simp [h0, h1, h2, h3, h4] at h
              | some y4 =>
                simp [h0, h1, h2, h3, h4] at h
                exact ⟨y0, y1, y2, y3, y4, n, h.symm, h0, h1, h2, h3, h4⟩
theorem shut_array5 {t e : TypeId} {k : IntKind} (ht : P.underlying t = some (.array 5 e)) (he : P.underlying e = some (.int k)) (hce : P.cellsOf e = 1) (hct : P.cellsOf t = 5) {x0 x1 x2 x3 x4 : Int}
    (h0 : (Lit.int k x0).wf = true) (h1 : (Lit.int k x1).wf = true) (h2 : (Lit.int k x2).wf = true) (h3 : (Lit.int k x3).wf = true) (h4 : (Lit.int k x4).wf = true) :
    DataW.Trod enc P w base spare held t (.agg #[.int k x0, .int k x1, .int k x2, .int k x3, .int k x4]) (.agg [.lit (.int k x0), .lit (.int k x1), .lit (.int k x2), .lit (.int k x3), .lit (.int k x4)]) [] := by
  refine ⟨2, ?_⟩
  have r5 : List.range 5 = [0, 1, 2, 3, 4] := rfl
  have hs : ∀ x, (Lit.int k x).wf = true → DataW.trod enc P w base spare held 1 e [.int k x] = some (.lit (.int k x), []) := fun x hx => by simp [DataW.trod, he, hx]
  unfold DataW.trod
  rw [ht]
  simp [r5, hce, hct, Value.cells, hs _ h0, hs _ h1, hs _ h2, hs _ h3, hs _ h4]
/-- an array of five words among the arguments -/
theorem open_array5 {t e : TypeId} {k : IntKind} {v : Value} {d : DataW H} {ps : List MemPlace} (ht : P.underlying t = some (.array 5 e)) (he : P.underlying e = some (.int k)) (hce : P.cellsOf e = 1) (hct : P.cellsOf t = 5) {r : Reach} {b0 : Nat} (hval : Value.okWide P w r b0 t v) (hd : DataW.Trod enc P w base spare held t v d ps) :
    ∃ x0 x1 x2 x3 x4 : Int, v = .agg #[.int k x0, .int k x1, .int k x2, .int k x3, .int k x4] ∧ d = .agg [.lit (.int k x0), .lit (.int k x1), .lit (.int k x2), .lit (.int k x3), .lit (.int k x4)] ∧ ps = [] ∧
      (Lit.int k x0).wf = true ∧ (Lit.int k x1).wf = true ∧ (Lit.int k x2).wf = true ∧ (Lit.int k x3).wf = true ∧ (Lit.int k x4).wf = true := by
  obtain ⟨fuel, hf⟩ := hd
  obtain ⟨c0, c1, c2, c3, c4, hcs, y0, y1, y2, y3, y4, n, hx, h0, h1, h2, h3, h4⟩ := trod_array5 ht hce hct hf
  obtain ⟨x0, e0, rfl, w0⟩ := DataW.trod_int he h0
  obtain ⟨x1, e1, rfl, w1⟩ := DataW.trod_int he h1
  obtain ⟨x2, e2, rfl, w2⟩ := DataW.trod_int he h2
  obtain ⟨x3, e3, rfl, w3⟩ := DataW.trod_int he h3
  obtain ⟨x4, e4, rfl, w4⟩ := DataW.trod_int he h4
  simp at e0 e1 e2 e3 e4
  subst e0 e1 e2 e3 e4
  simp at hx
  refine ⟨x0, x1, x2, x3, x4, ?_, hx.1, hx.2, w0, w1, w2, w3, w4⟩
  simp only [Value.okWide, ht] at hval
  obtain ⟨cs, rfl, _, _⟩ := hval
  congr 1
  exact Array.ext' hcs
end
end Go.Proofs.YtpaldgajkhmhbaaDoor

namespace Go.Proofs.YtpaldgajkhmhbaaDoor
open Go.ChangeShapes Go.WideShapes Go.ChangeAt Go.WideMaps Go.WideElems Go.RowKit

theorem own_ : ownKnob Tryd.prog.godebug = none := by kernel_rfl
theorem u8_cells : Tryd.prog.cellsOf 5 = 1 := by kernel_rfl
theorem u8_under : Tryd.prog.underlying 5 = some (.int .u8) := by kernel_rfl
theorem bool_under : Tryd.prog.underlying 4 = some .bool := by kernel_rfl
theorem row_mem (a : Addr) (n : Nat) (h : 0 < n) : ∃ p ∈ MemPlace.row a n, p.block = a.block := by
  refine ⟨.cell a.block (a.off + 0), ?_, rfl⟩
  simp only [MemPlace.row, List.mem_map, List.mem_range]
  exact ⟨0, h, rfl⟩
theorem add_at (a : Addr) (i : Nat) : (a.add i).block = a.block := by unfold Addr.add; split <;> rfl
def laidE : List (String × DataW Unit) := [("buttress/edwards.curve", Rows.laid_buttress_edwards_curve), ("buttress/edwards.twice", Rows.laid_buttress_edwards_twice)]
theorem gCurve : Tryd.prog.globalNamed "buttress/edwards.curve" = some 0 := by kernel_rfl
theorem gTwice : Tryd.prog.globalNamed "buttress/edwards.twice" = some 1 := by kernel_rfl
theorem tCurve : (Tryd.prog.globals[0]?).map (·.type) = some 27 := by kernel_rfl
theorem tTwice : (Tryd.prog.globals[1]?).map (·.type) = some 27 := by kernel_rfl
theorem el_under : Tryd.prog.underlying 27 = some (.array 5 25) := by kernel_rfl
theorem u64_u : Tryd.prog.underlying 25 = some (.int .u64) := by kernel_rfl
theorem u64_cells : Tryd.prog.cellsOf 25 = 1 := by kernel_rfl
theorem el_cells : Tryd.prog.cellsOf 27 = 5 := by kernel_rfl
theorem door_met (os : Os) (args : Array Value) : laidMetH Tryd.prog laidE ((World.doorLaid Tryd.prog 400 os).forCall (fun _ _ => 0) ⟨#[], args, []⟩).memory :=
  laidMetH_of_parts3 (fuel := 8) (laidMet_of_run' 8 (by kernel_rfl) (by kernel_rfl)) (by kernel_rfl) (by kernel_rfl)
/-- what the two variables hold -/
theorem of_laid {W : World} (h : laidMetH Tryd.prog laidE W) : CvP W := by
  rw [MakeChecks.laidMetH_plain _ _ _ (by kernel_rfl)] at h
  obtain ⟨ps, ⟨g0, t0, cs0, f0, p0, q0, hg0, ht0, hv0, hd0, ⟨g1, t1, cs1, f1, p1, q1, hg1, ht1, hv1, hd1, _, _⟩, _⟩, _, _⟩ := h
  obtain rfl := Option.some.inj (gCurve.symm.trans hg0)
  obtain rfl := Option.some.inj (gTwice.symm.trans hg1)
  obtain rfl := Option.some.inj (tCurve.symm.trans ht0)
  obtain rfl := Option.some.inj (tTwice.symm.trans ht1)
  obtain ⟨a0, a1, a2, a3, a4, ha, y0, y1, y2, y3, y4, n, hx, h0, h1, h2, h3, h4⟩ := trod_array5 el_under u64_cells el_cells hd0
  obtain ⟨b0, b1, b2, b3, b4, hb, z0, z1, z2, z3, z4, m, hz, k0, k1, k2, k3, k4⟩ := trod_array5 el_under u64_cells el_cells hd1
  obtain ⟨i0, e0, rfl, _⟩ := DataW.trod_int u64_u h0
  obtain ⟨i1, e1, rfl, _⟩ := DataW.trod_int u64_u h1
  obtain ⟨i2, e2, rfl, _⟩ := DataW.trod_int u64_u h2
  obtain ⟨i3, e3, rfl, _⟩ := DataW.trod_int u64_u h3
  obtain ⟨i4, e4, rfl, _⟩ := DataW.trod_int u64_u h4
  obtain ⟨j0, l0, rfl, _⟩ := DataW.trod_int u64_u k0
  obtain ⟨j1, l1, rfl, _⟩ := DataW.trod_int u64_u k1
  obtain ⟨j2, l2, rfl, _⟩ := DataW.trod_int u64_u k2
  obtain ⟨j3, l3, rfl, _⟩ := DataW.trod_int u64_u k3
  obtain ⟨j4, l4, rfl, _⟩ := DataW.trod_int u64_u k4
  simp [Rows.laid_buttress_edwards_curve] at hx
  simp [Rows.laid_buttress_edwards_twice] at hz
  simp at e0 e1 e2 e3 e4 l0 l1 l2 l3 l4
  obtain ⟨⟨rfl, rfl, rfl, rfl, rfl⟩, _⟩ := hx
  obtain ⟨⟨rfl, rfl, rfl, rfl, rfl⟩, _⟩ := hz
  subst e0 e1 e2 e3 e4 l0 l1 l2 l3 l4
  have c0 := fun i => World.var?_cell hg0 hv0 i
  have c1 := fun i => World.var?_cell hg1 hv1 i
  obtain ⟨q0⟩ := cs0
  obtain ⟨q1⟩ := cs1
  simp only at ha hb
  subst ha hb
  refine ⟨?_, fun i _ => c0 i, fun i _ => c1 i⟩
  have := c1 0
  rcases Nat.lt_or_ge 1 W.heap.size with h | h
  · exact h
  · simp only [World.cell?, Array.getElem?_eq_none h] at this
    cases this
set_option maxRecDepth 100000 in
theorem edwardsCurve_lifted (os : Os) (started : os.Started) (H : Type) (enc : TypeId × Value → H) :
    ReturnsInHanded {} Tryd.checked os 5 .any (fun w args => (Rows.edwardsCurveSpec.pre enc Tryd.prog Tryd.f5 [] false w args ∧ laidMetH Tryd.prog laidE w) ∧ sizedMet enc Tryd.prog Tryd.f5 (OpenSpec.ofChange Rows.edwardsCurveSpec) false w args)
      (Rows.edwardsCurveSpec.post enc Tryd.prog Tryd.f5 false true false false) := by
  refine returnsInHanded_of_change_and (C := Tryd.checked) (X := fun w _ => laidMetH Tryd.prog laidE w) (fun _ _ _ hh h => h.of_heap hh) own_ started (by kernel_rfl) Tryd.func5
    (ChangeSpec.witness_shaped (enc := enc) (C := Tryd.checked) (os := os) (X := fun w _ => laidMetH Tryd.prog laidE w) false (World.doorLaid Tryd.prog 400 os) #[.slice none 0 0] 8 rfl (World.shaped_of_RefB (by kernel_rfl) (by kernel_rfl)) (by kernel_rfl) (by kernel_rfl) (by kernel_rfl) (door_met os _)) ?_
  intro W base args ds gs before hval0 hW _ _ hL _
  have hval : ∀ (j : Nat) t v, Tryd.f5.params[j]? = some t → args[j]? = some v → Value.okWide Tryd.prog W .any base t v := hval0
  have hW' := hW
  obtain ⟨p, q, hA0, hV, rfl, hfz, hnd⟩ := hW
  have hA : DataW.TrodAll enc Tryd.prog W 0 (fun _ => true) true Tryd.f5.params.toList args.toList ds p := hA0
  rw [Tryd.params5] at hA hval
  obtain ⟨v0, d0, rfl, rfl, h0⟩ := trodAll_one hA
  obtain ⟨rfl, rfl⟩ := trodVars_none hV
  clear hA0 hval0
  simp only [List.append_nil] at hW'
  have hCv := of_laid hL
  obtain ⟨a1, len, cap, rfl⟩ := okWide_slice bs_underK (hval 0 22 v0 rfl rfl)
  obtain ⟨fuel, hf⟩ := h0
  rcases open_ints bs_underK u8_under u8_cells hf with ⟨hcs, hx⟩ | ⟨a, len', cap', zs, hcs, _, hl, hm, hz, hx, hcell, hwz⟩
  · simp [Value.cells] at hcs
    obtain ⟨rfl, rfl, rfl⟩ := hcs
    simp only [Prod.mk.injEq] at hx
    obtain ⟨rfl, rfl⟩ := hx
    refine (curve4_c none 0 0 (fun _ => 0) (fun _ => by decide) W (fun h => absurd h (by decide)) hCv).mono fun e W' ⟨he, hb⟩ => ?_
    subst he
    exact ⟨_, rfl, post_of_below (pa := []) (pv := []) hW' (fun _ _ _ => trodAll_mk1 (shut_bool bool_under true)) (fun sp _ => trodAll_mk1 ⟨2, by rw [DataW.trod_step]; unfold DataW.trodStep; rw [show Tryd.checked.prog.underlying 22 = some (.slice 5) from bs_underK]; rfl⟩) (fun _ _ => rfl) rfl hb
      (ok_one (by kernel_rfl) rfl (okWide_bool_mk bool_under true))⟩
  · simp [Value.cells] at hcs
    obtain ⟨rfl, rfl, rfl⟩ := hcs
    simp only [Prod.mk.injEq] at hx
    obtain ⟨rfl, rfl⟩ := hx
    simp only [if_true] at hz
    have hC := curve4_c (some a) len cap (fun j => zs.getD j 0) (fun j => by
      have := range_u8 hwz j
      rw [List.getD_eq_getElem?_getD]
      omega) W (fun hpos => by
        obtain ⟨ab, ao, spot⟩ := a
        have hc1 := hcell 0 (by omega)
        have hspot : spot = none := by simpa [Addr.add] using World.cell?_spot hc1
        subst hspot
        refine ⟨ab, ao, rfl, ?_, fun j hj => ?_⟩
        · obtain ⟨p, hp, e⟩ := row_mem ⟨ab, ao, none⟩ zs.length (by omega)
          have := hW'.lt p hp
          rw [e] at this
          exact this
        · have := hcell j (by omega)
          rwa [add_o] at this) hCv
    refine hC.mono fun e W' ⟨he, hb⟩ => ?_
    subst he
    have hlt : ∀ i, i < zs.length → a.block < W.heap.size := fun i hi => by
      obtain ⟨p, hp, e⟩ := row_mem a zs.length (by omega)
      have := hW'.lt p hp
      rwa [e] at this
    refine ⟨_, rfl, post_of_below (pa := MemPlace.row a zs.length) (pv := []) hW' (fun _ _ _ => trodAll_mk1 (shut_bool bool_under true)) (fun sp hsp => trodAll_mk1 ⟨2, shut_ints 0 bs_underK u8_under u8_cells (Nat.zero_le _) hl hm ?_ (fun i hi => ?_) hwz⟩) (fun _ _ => rfl) (by simp) hb
      (ok_one (by kernel_rfl) rfl (okWide_bool_mk bool_under true))⟩
    · rw [hz]
      split
      · rfl
      · rename_i hns
        rcases Nat.eq_zero_or_pos cap with h | h
        · omega
        · obtain ⟨p, hp, e⟩ := row_mem a zs.length (by omega)
          have := hsp p hp
          rw [e] at this
          exact absurd this hns
    · rw [hb.cell (by rw [add_at]; exact hlt i hi)]
      exact hcell i hi
theorem edwardsCurve_row : Rows.EdwardsCurveSaid :=
  OpenClaim.holds_of_wide 5 Tryd.f5 rfl rfl rfl rfl rfl rfl rfl ⟨rfl, rfl, rfl, rfl, rfl⟩ rfl rfl rfl rfl rfl (by kernel_rfl) Tryd.func5 (by kernel_rfl)
    (of_decide_eq_true (by kernel_rfl)) (by unfold Func.isWrapper; first | (rw [if_pos (by decide +kernel)]; kernel_rfl) | (rw [if_neg (by decide +kernel)]; exact ⟨rfl, rfl⟩))
    (fun os started H enc _ => edwardsCurve_lifted os started H enc)
theorem edwardsCurve_holds : Rows.EdwardsCurveCardSaid :=
  Claim7.holds_tied_plain_at .later [] [.data, .data] true (true, "6e129b5b755843fca1c9938d877822f84d8e150055241bfa7f0a4cfcf7dc7d77") false
    edwardsCurve_row (fun _ h => by cases h) (by kernel_rfl) (fun _ h => by cases h) edwardsCurve_row_tie rfl ⟨rfl, rfl⟩ (by kernel_rfl) rfl
    (fun f fn hf hfn => by
      obtain rfl : f = 5 := Option.some.inj ((show Tryd.prog.funcNamed "buttress/buttresslaw04.EdwardsCurve" = some 5 by kernel_rfl).symm.trans hf) |>.symm
      obtain rfl : fn = Tryd.f5 := (Option.some.inj (Tryd.func5.symm.trans hfn)).symm
      exact ⟨by kernel_rfl, fun j t ht => by
        rw [Tryd.params5] at ht
        have hm : t ∈ [22] := by simpa using Array.mem_of_getElem? ht
        have hall : ([22].all fun u => !Tryd.prog.wantsStandIn u) = true := by kernel_rfl
        exact (show Tryd.prog.wantsStandIn t = false by simpa using List.all_eq_true.1 hall t hm)⟩)
    (by kernel_rfl)
end Go.Proofs.YtpaldgajkhmhbaaDoor
