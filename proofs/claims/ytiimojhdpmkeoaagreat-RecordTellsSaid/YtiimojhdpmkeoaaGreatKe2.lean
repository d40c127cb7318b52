/- The walk of KeptDots. -/
import Derived.Test.YtiimojhdpmkeoaaGreatLe
import Derived.Deep.QuietTactic
namespace Go.Proofs.YtiimojhdpmkeoaaGreat
open Go.RowKit
def kd1L (p : Option Addr) (n c cap g0 k i : Nat) (x : Int) : List (Value → World → Prop) := [
  Eq1 (.int .i64 k),
  Eq1 (.slice p n c),
  Eq1 (.int .i64 n),
  Eq1 (.bool false),
  Eq1 (.bool false),
  Eq1 (undef),
  Eq1 (undef),
  Eq1 (undef),
  Eq1 (undef),
  Eq1 (undef),
  Eq1 (undef),
  Eq1 (undef),
  Eq1 (undef),
  Eq1 (undef),
  Eq1 (undef),
  Eq1 (.bool false),
  Eq1 (.bool false),
  Eq1 (.int .i64 k),
  Eq1 (.slice p n c),
  Eq1 (.int .i64 n),
  Eq1 (.bool true),
  Eq1 (.bool true),
  Eq1 (.slice (some ⟨g0, 0, none⟩) (n + 12) cap),
  Eq1 (.int .i64 k),
  Eq1 (.pointer (some ⟨g0, k * 2, none⟩)),
  Eq1 (.agg #[.int .i64 0, .int .i64 x]),
  Eq1 (.int .i64 k),
  Eq1 (.slice p n c),
  Eq1 (.int .i64 n),
  Eq1 (.int .i64 i),
  Eq1 (.agg #[.int .i64 0, .int .i64 x]),
  Eq1 (.bool true),
  Eq1 (.bool false),
  Eq1 (.bool false),
  Eq1 (.bool false)]
theorem kd1S (p : Option Addr) (n c cap g0 k i : Nat) (x : Int) : ∀ j x' q q', (kd1L p n c cap g0 k i x).getD j (fun _ _ => True) x' q → Below q.heap.size q q' → (kd1L p n c cap g0 k i x).getD j (fun _ _ => True) x' q' := by
  refine sta_all _ ?_
  simp only [kd1L, List.mem_cons, forall_eq_or_imp, List.not_mem_nil, false_implies, implies_true, and_true]
  exact ⟨sta_eq _, sta_eq _, sta_eq _, sta_eq _, sta_eq _, sta_eq _, sta_eq _, sta_eq _, sta_eq _, sta_eq _, sta_eq _, sta_eq _, sta_eq _, sta_eq _, sta_eq _, sta_eq _, sta_eq _, sta_eq _, sta_eq _, sta_eq _, sta_eq _, sta_eq _, sta_eq _, sta_eq _, sta_eq _, sta_eq _, sta_eq _, sta_eq _, sta_eq _, sta_eq _, sta_eq _, sta_eq _, sta_eq _, sta_eq _, sta_eq _⟩
def kd0L (g o n c cap g0 k : Nat) (x y : Int) : List (Value → World → Prop) := [
  Eq1 (.int .i64 k),
  Eq1 (.slice (some ⟨g, o, none⟩) n c),
  Eq1 (.int .i64 n),
  Eq1 (.bool true),
  Eq1 (.bool true),
  Eq1 (.slice (some ⟨g0, 0, none⟩) (n + 12) cap),
  Eq1 (.int .i64 k),
  Eq1 (.pointer (some ⟨g0, k * 2, none⟩)),
  Eq1 (.agg #[.int .i64 x, .int .i64 y]),
  Eq1 (.slice (some ⟨g, o, none⟩) n c),
  Eq1 (.int .i64 k),
  Eq1 (.pointer (some ⟨g, o + k * 2, none⟩)),
  Eq1 (.agg #[.int .i64 x, .int .i64 y]),
  Eq1 (.bool true),
  Eq1 (.bool false),
  Eq1 (.bool false),
  Eq1 (.bool false),
  Eq1 (.int .i64 k),
  Eq1 (.slice (some ⟨g, o, none⟩) n c),
  Eq1 (.int .i64 n),
  Eq1 (.bool false),
  Eq1 (.bool false),
  Eq1 (undef),
  Eq1 (undef),
  Eq1 (undef),
  Eq1 (undef),
  Eq1 (undef),
  Eq1 (undef),
  Eq1 (undef),
  Eq1 (undef),
  Eq1 (undef),
  Eq1 (undef),
  Eq1 (undef),
  Eq1 (.bool false),
  Eq1 (.bool false)]
theorem kd0S (g o n c cap g0 k : Nat) (x y : Int) : ∀ j x' q q', (kd0L g o n c cap g0 k x y).getD j (fun _ _ => True) x' q → Below q.heap.size q q' → (kd0L g o n c cap g0 k x y).getD j (fun _ _ => True) x' q' := by
  refine sta_all _ ?_
  simp only [kd0L, List.mem_cons, forall_eq_or_imp, List.not_mem_nil, false_implies, implies_true, and_true]
  exact ⟨sta_eq _, sta_eq _, sta_eq _, sta_eq _, sta_eq _, sta_eq _, sta_eq _, sta_eq _, sta_eq _, sta_eq _, sta_eq _, sta_eq _, sta_eq _, sta_eq _, sta_eq _, sta_eq _, sta_eq _, sta_eq _, sta_eq _, sta_eq _, sta_eq _, sta_eq _, sta_eq _, sta_eq _, sta_eq _, sta_eq _, sta_eq _, sta_eq _, sta_eq _, sta_eq _, sta_eq _, sta_eq _, sta_eq _, sta_eq _, sta_eq _⟩
set_option maxRecDepth 20000 in
set_option maxHeartbeats 2000000 in
theorem keptDots_c (g0 cap : Nat) (p : Option Addr) (n c : Nat) (ds : List Int) (hn : n ≤ 1000000) (hcap : n + 12 ≤ cap) (w : World) (hR : DotsL w (some ⟨g0, 0, none⟩) (n + 12) (ds ++ marksL 12)) (hD : DotsL w p n ds) :
    Calls Tryz.prog 31 #[.slice (some ⟨g0, 0, none⟩) n cap, .slice p n c] w fun e w' => e = .returned (.bool true) ∧ Below w.heap.size w w' := by
  have hl : ∀ j, j < 2 * n → (ds ++ marksL 12).getD j 0 = ds.getD j 0 := fun j hj => by
    have := hD.1
    rw [List.getD_eq_getElem?_getD, List.getElem?_append_left (by omega), List.getD_eq_getElem?_getD]
  have hm : ∀ i, i < 12 → (ds ++ marksL 12).getD ((n + i) * 2) 0 = 0 ∧ (ds ++ marksL 12).getD ((n + i) * 2 + 1) 0 = mk 1 i := fun i hi => by
    have h1 := hD.1
    have h2 := marks_at 12 i hi
    simp only [List.getD_eq_getElem?_getD] at h2 ⊢
    rw [List.getElem?_append_right (by omega), List.getElem?_append_right (by omega), show (n + i) * 2 - ds.length = i * 2 by omega, show (n + i) * 2 + 1 - ds.length = i * 2 + 1 by omega]
    exact h2
  obtain ⟨g', o', e1, hg, hcR⟩ := hR.2 (by omega)
  simp only [Option.some.injEq, Addr.mk.injEq, and_true] at e1
  obtain ⟨rfl, rfl⟩ := e1
  simp only [Nat.zero_add] at hcR
  have hc : ∀ j, j < 2 * n → ∃ g o, p = some ⟨g, o, none⟩ ∧ g < w.heap.size ∧ w.cell? ⟨g, o + j, none⟩ = some (.int .i64 (ds.getD j 0)) := fun j hj => by
    obtain ⟨g, o, e, h1, h2⟩ := hD.2 (by omega)
    exact ⟨g, o, e, h1, h2 j hj⟩
  have hD2 := hD.2
  generalize ds ++ marksL 12 = L at *
  clear hR hc
  replace hl := Lib.hid hl
  replace hm := Lib.hid hm
  replace hD2 := Lib.hid hD2
  replace hcR := Lib.hid hcR
  have hn0 : (0 : Int) ≤ (n : Int) := by omega
  have hn1 : (n : Int) ≤ 1000000 := by omega
  have hcap2 : (n : Int) + 12 ≤ (cap : Int) := by omega
  clear hD
  go_enter Tryz.func31, Tryz.ntmps31
  go_wp2
  go_loopw [6] (fun i wr => ∃ k : Nat, k ≤ n + 12 ∧ i = .int .i64 k ∧ Below w.heap.size w wr) (fun i _ => (n + 12 - intOf i).toNat)
  case atStart => exact ⟨0, by omega, rfl, Below.refl _ _⟩
  case round =>
    obtain ⟨k, hk, hi', hb⟩ := hrel
    subst hi'
    have hk0 : (0 : Int) ≤ (k : Int) := by omega
    by_cases hend : k = n + 12
    · have hk1 : (k : Int) = (n : Int) + 12 := by omega
      subst hend
      go_wp2
      go_returns
      exact ⟨rfl, hb⟩
    · have hk1 : (k : Int) < (n : Int) + 12 := by omega
      have cx : wr.cell? ⟨g0, k * 2, none⟩ = some (.int .i64 (L.getD (k * 2) 0)) := (hb.cell (p := ⟨g0, k * 2, none⟩) hg).trans (hcR.out (k * 2) (by omega))
      have cy : wr.cell? ⟨g0, k * 2 + 1, none⟩ = some (.int .i64 (L.getD (k * 2 + 1) 0)) := (hb.cell (p := ⟨g0, k * 2 + 1, none⟩) hg).trans (hcR.out (k * 2 + 1) (by omega))
      by_cases hkn : k < n
      · have hkn1 : (k : Int) < (n : Int) := by omega
        have hkn2 : decide ((k : Int) < (n : Int)) = true := decide_eq_true hkn1
        have hkn3 : decide (n ≤ k) = false := decide_eq_false (by omega)
        obtain ⟨g, o, rfl, hg2, h2⟩ := hD2.out (by omega)
        have a0 : wr.cell? ⟨g, o + k * 2, none⟩ = some (.int .i64 (ds.getD (k * 2) 0)) := (hb.cell (p := ⟨g, o + k * 2, none⟩) hg2).trans (h2 (k * 2) (by omega))
        have a1 : wr.cell? ⟨g, o + k * 2 + 1, none⟩ = some (.int .i64 (ds.getD (k * 2 + 1) 0)) := by
          have := (hb.cell (p := ⟨g, o + (k * 2 + 1), none⟩) hg2).trans (h2 (k * 2 + 1) (by omega))
          rwa [← Nat.add_assoc] at this
        rw [hl.out _ (by omega)] at cx cy
        generalize ds.getD (k * 2) 0 = x at *
        generalize ds.getD (k * 2 + 1) 0 = y at *
        have hx : (x == x) = true := beq_self_eq_true _
        have hy : (y == y) = true := beq_self_eq_true _
        clear hk hend h2
        have hg : g0 < wr.heap.size := Nat.lt_of_lt_of_le hg hb.size
        have hg3 : g < wr.heap.size := Nat.lt_of_lt_of_le hg2 hb.size
        go_wp2
        refine wp_region_grow2 35 (fun k => (Nat.ble 23 k && Nat.ble k 57)) _ [] (fun j x' q => (kd0L g o n c cap g0 k x y).getD j (fun _ _ => True) x' q) (fun _ => false) (fun f => #[.slice (some ⟨g0, 0, none⟩) n cap, .slice (some ⟨g, o, none⟩) n c, undef, undef, u4, .slice (some ⟨g0, 0, none⟩) (n + 12) cap, .int .i64 k, .slice (some ⟨g0, 0, none⟩) n cap, .int .i64 n, .slice (some ⟨g, o, none⟩) n c, .int .i64 n, .bool false, .slice (some ⟨g0, 0, none⟩) n cap, .slice (some ⟨g, o, none⟩) n c, .int .i64 n, .int .i64 (n + 12), .slice (some ⟨g0, 0, none⟩) (n + 12) cap, .int .i64 k, .slice (some ⟨g0, 0, none⟩) (n + 12) cap, .int .i64 (n + 12), .bool true, u21, u22, f 23, f 24, f 25, f 26, f 27, f 28, f 29, f 30, f 31, f 32, f 33, f 34, f 35, f 36, f 37, f 38, f 39, f 40, f 41, f 42, f 43, f 44, f 45, f 46, f 47, f 48, f 49, f 50, f 51, f 52, f 53, f 54, f 55, f 56, f 57]) (fun f => rfl) (by kernel_rfl) (by kernel_rfl) (by kernel_rfl) (by kernel_rfl) (by kernel_rfl) (kd0S _ _ _ _ _ _ _ _ _) (fun _ _ _ h => by cases h) ?_ ?_
        · refine steps2_cons ?_ ?_
          · intro f w1 hb hd Q hK
            clear hd
            have hK := Lib.hid hK
            go_wp2
            exact hK.out _ _ rfl (Below.refl _ _) (fun h => by cases h)
          refine steps2_cons ?_ ?_
          · intro f w1 hb hd Q hK
            clear hd
            have hK := Lib.hid hK
            go_wp2
            exact hK.out _ _ rfl (Below.refl _ _) (fun h => by cases h)
          refine steps2_cons ?_ ?_
          · intro f w1 hb hd Q hK
            have e24 : f 24 = .slice (some ⟨g, o, none⟩) n c := hd.1 rfl
            clear hd
            simp only [e24] at hK
            have hK := Lib.hid hK
            go_wp2
            exact hK.out _ _ rfl (Below.refl _ _) (fun h => by cases h)
          refine steps2_cons ?_ ?_
          · intro f w1 hb hd Q hK
            have e23 : f 23 = .int .i64 k := hd.1 rfl
            have e25 : f 25 = .int .i64 n := hd.2.1 rfl
            clear hd
            simp only [e23, e25] at hK
            have hK := Lib.hid hK
            go_wp2
            exact hK.out _ _ rfl (Below.refl _ _) (fun h => by cases h)
          refine steps2_cons ?_ ?_
          · intro f w1 hb hd Q hK
            have e26 : f 26 = .bool true := hd.1 rfl
            clear hd
            simp only [e26] at hK
            have hK := Lib.hid hK
            go_wp2
            exact hK.out _ _ rfl (Below.refl _ _) (fun h => by cases h)
          refine steps2_cons ?_ ?_
          · intro f w1 hb hd Q hK
            have e27 : f 27 = .bool true := hd.1 rfl
            clear hd
            simp only [e27] at hK
            have hK := Lib.hid hK
            go_wp2
            exact hK.out _ _ rfl (Below.refl _ _) (fun h => by cases h)
          refine steps2_cons ?_ ?_
          · intro f w1 hb hd Q hK
            have e27 : f 27 = .bool true := hd.1 rfl
            clear hd
            simp only [e27] at hK
            have hK := Lib.hid hK
            go_wp2
            exact hK.out _ _ rfl (Below.refl _ _) (fun h => by cases h)
          refine steps2_cons ?_ ?_
          · intro f w1 hb hd Q hK
            have e28 : f 28 = .slice (some ⟨g0, 0, none⟩) (n + 12) cap := hd.1 rfl
            have e29 : f 29 = .int .i64 k := hd.2.1 rfl
            have e27 : f 27 = .bool true := hd.2.2.1 rfl
            clear hd
            simp only [e28, e29, e27] at hK
            have hK := Lib.hid hK
            go_wp2
            exact hK.out _ _ rfl (Below.refl _ _) (fun h => by cases h)
          refine steps2_cons ?_ ?_
          · intro f w1 hb hd Q hK
            have e30 : f 30 = .pointer (some ⟨g0, k * 2, none⟩) := hd.1 rfl
            have e27 : f 27 = .bool true := hd.2.1 rfl
            clear hd
            simp only [e30, e27] at hK
            have hK := Lib.hid hK
            have c0 := (hb.cell (p := ⟨g0, k * 2, none⟩) hg).trans cx
            have c1 := (hb.cell (p := ⟨g0, k * 2 + 1, none⟩) hg).trans cy
            go_wp2
            exact hK.out _ _ rfl (Below.refl _ _) (fun h => by cases h)
          refine steps2_cons ?_ ?_
          · intro f w1 hb hd Q hK
            have e27 : f 27 = .bool true := hd.1 rfl
            clear hd
            simp only [e27] at hK
            have hK := Lib.hid hK
            go_wp2
            exact hK.out _ _ rfl (Below.refl _ _) (fun h => by cases h)
          refine steps2_cons ?_ ?_
          · intro f w1 hb hd Q hK
            have e27 : f 27 = .bool true := hd.1 rfl
            clear hd
            simp only [e27] at hK
            have hK := Lib.hid hK
            go_wp2
            exact hK.out _ _ rfl (Below.refl _ _) (fun h => by cases h)
          refine steps2_cons ?_ ?_
          · intro f w1 hb hd Q hK
            have e32 : f 32 = .slice (some ⟨g, o, none⟩) n c := hd.1 rfl
            have e33 : f 33 = .int .i64 k := hd.2.1 rfl
            have e27 : f 27 = .bool true := hd.2.2.1 rfl
            clear hd
            simp only [e32, e33, e27] at hK
            have hK := Lib.hid hK
            go_wp2
            exact hK.out _ _ rfl (Below.refl _ _) (fun h => by cases h)
          refine steps2_cons ?_ ?_
          · intro f w1 hb hd Q hK
            have e34 : f 34 = .pointer (some ⟨g, o + k * 2, none⟩) := hd.1 rfl
            have e27 : f 27 = .bool true := hd.2.1 rfl
            clear hd
            simp only [e34, e27] at hK
            have hK := Lib.hid hK
            have c0 := (hb.cell (p := ⟨g, o + k * 2, none⟩) hg3).trans a0
            have c1 := (hb.cell (p := ⟨g, o + k * 2 + 1, none⟩) hg3).trans a1
            go_wp2
            exact hK.out _ _ rfl (Below.refl _ _) (fun h => by cases h)
          refine steps2_cons ?_ ?_
          · intro f w1 hb hd Q hK
            have e31 : f 31 = .agg #[.int .i64 x, .int .i64 y] := hd.1 rfl
            have e35 : f 35 = .agg #[.int .i64 x, .int .i64 y] := hd.2.1 rfl
            have e27 : f 27 = .bool true := hd.2.2.1 rfl
            clear hd
            simp only [e31, e35, e27] at hK
            have hK := Lib.hid hK
            go_wp2
            exact hK.out _ _ rfl (Below.refl _ _) (fun h => by cases h)
          refine steps2_cons ?_ ?_
          · intro f w1 hb hd Q hK
            have e36 : f 36 = .bool true := hd.1 rfl
            have e27 : f 27 = .bool true := hd.2.1 rfl
            clear hd
            simp only [e36, e27] at hK
            have hK := Lib.hid hK
            go_wp2
            exact hK.out _ _ rfl (Below.refl _ _) (fun h => by cases h)
          refine steps2_cons ?_ ?_
          · intro f w1 hb hd Q hK
            have e27 : f 27 = .bool true := hd.1 rfl
            have e37 : f 37 = .bool false := hd.2.1 rfl
            clear hd
            simp only [e27, e37] at hK
            have hK := Lib.hid hK
            go_wp2
            exact hK.out _ _ rfl (Below.refl _ _) (fun h => by cases h)
          refine steps2_cons ?_ ?_
          · intro f w1 hb hd Q hK
            have e38 : f 38 = .bool false := hd.1 rfl
            clear hd
            simp only [e38] at hK
            have hK := Lib.hid hK
            go_wp2
            exact hK.out _ _ rfl (Below.refl _ _) (fun h => by cases h)
          refine steps2_cons ?_ ?_
          · intro f w1 hb hd Q hK
            have e39 : f 39 = .bool false := hd.1 rfl
            clear hd
            simp only [e39] at hK
            have hK := Lib.hid hK
            go_wp2
            exact hK.out _ _ rfl (Below.refl _ _) (fun h => by cases h)
          refine steps2_cons ?_ ?_
          · intro f w1 hb hd Q hK
            have e39 : f 39 = .bool false := hd.1 rfl
            clear hd
            simp only [e39] at hK
            have hK := Lib.hid hK
            go_wp2
            exact hK.out _ _ rfl (Below.refl _ _) (fun h => by cases h)
          refine steps2_cons ?_ ?_
          · intro f w1 hb hd Q hK
            have e41 : f 41 = .slice (some ⟨g, o, none⟩) n c := hd.1 rfl
            have e39 : f 39 = .bool false := hd.2.1 rfl
            clear hd
            simp only [e41, e39] at hK
            have hK := Lib.hid hK
            go_wp2
            exact hK.out _ _ rfl (Below.refl _ _) (fun h => by cases h)
          refine steps2_cons ?_ ?_
          · intro f w1 hb hd Q hK
            have e40 : f 40 = .int .i64 k := hd.1 rfl
            have e42 : f 42 = .int .i64 n := hd.2.1 rfl
            have e39 : f 39 = .bool false := hd.2.2.1 rfl
            clear hd
            simp only [e40, e42, e39] at hK
            have hK := Lib.hid hK
            go_wp2
            exact hK.out _ _ rfl (Below.refl _ _) (fun h => by cases h)
          refine steps2_cons ?_ ?_
          · intro f w1 hb hd Q hK
            have e43 : f 43 = .bool false := hd.1 rfl
            have e39 : f 39 = .bool false := hd.2.1 rfl
            clear hd
            simp only [e43, e39] at hK
            have hK := Lib.hid hK
            go_wp2
            exact hK.out _ _ rfl (Below.refl _ _) (fun h => by cases h)
          refine steps2_cons ?_ ?_
          · intro f w1 hb hd Q hK
            have e44 : f 44 = .bool false := hd.1 rfl
            clear hd
            simp only [e44] at hK
            have hK := Lib.hid hK
            go_wp2
            exact hK.out _ _ rfl (Below.refl _ _) (fun h => by cases h)
          refine steps2_cons ?_ ?_
          · intro f w1 hb hd Q hK
            have e44 : f 44 = .bool false := hd.1 rfl
            clear hd
            simp only [e44] at hK
            have hK := Lib.hid hK
            go_wp2
            exact hK.out _ _ rfl (Below.refl _ _) (fun h => by cases h)
          refine steps2_cons ?_ ?_
          · intro f w1 hb hd Q hK
            have e45 : f 45 = undef := hd.1 rfl
            have e46 : f 46 = undef := hd.2.1 rfl
            have e44 : f 44 = .bool false := hd.2.2.1 rfl
            clear hd
            simp only [e45, e46, e44] at hK
            have hK := Lib.hid hK
            go_wp2
            exact hK.out _ _ rfl (Below.refl _ _) (fun h => by cases h)
          refine steps2_cons ?_ ?_
          · intro f w1 hb hd Q hK
            have e47 : f 47 = undef := hd.1 rfl
            have e44 : f 44 = .bool false := hd.2.1 rfl
            clear hd
            simp only [e47, e44] at hK
            have hK := Lib.hid hK
            go_wp2
            exact hK.out _ _ rfl (Below.refl _ _) (fun h => by cases h)
          refine steps2_cons ?_ ?_
          · intro f w1 hb hd Q hK
            have e44 : f 44 = .bool false := hd.1 rfl
            clear hd
            simp only [e44] at hK
            have hK := Lib.hid hK
            go_wp2
            exact hK.out _ _ rfl (Below.refl _ _) (fun h => by cases h)
          refine steps2_cons ?_ ?_
          · intro f w1 hb hd Q hK
            have e44 : f 44 = .bool false := hd.1 rfl
            clear hd
            simp only [e44] at hK
            have hK := Lib.hid hK
            go_wp2
            exact hK.out _ _ rfl (Below.refl _ _) (fun h => by cases h)
          refine steps2_cons ?_ ?_
          · intro f w1 hb hd Q hK
            have e50 : f 50 = undef := hd.1 rfl
            have e44 : f 44 = .bool false := hd.2.1 rfl
            clear hd
            simp only [e50, e44] at hK
            have hK := Lib.hid hK
            go_wp2
            exact hK.out _ _ rfl (Below.refl _ _) (fun h => by cases h)
          refine steps2_cons ?_ ?_
          · intro f w1 hb hd Q hK
            have e49 : f 49 = undef := hd.1 rfl
            have e51 : f 51 = undef := hd.2.1 rfl
            have e44 : f 44 = .bool false := hd.2.2.1 rfl
            clear hd
            simp only [e49, e51, e44] at hK
            have hK := Lib.hid hK
            go_wp2
            exact hK.out _ _ rfl (Below.refl _ _) (fun h => by cases h)
          refine steps2_cons ?_ ?_
          · intro f w1 hb hd Q hK
            have e52 : f 52 = undef := hd.1 rfl
            have e44 : f 44 = .bool false := hd.2.1 rfl
            clear hd
            simp only [e52, e44] at hK
            have hK := Lib.hid hK
            go_wp2
            exact hK.out _ _ rfl (Below.refl _ _) (fun h => by cases h)
          refine steps2_cons ?_ ?_
          · intro f w1 hb hd Q hK
            have e48 : f 48 = undef := hd.1 rfl
            have e53 : f 53 = undef := hd.2.1 rfl
            have e44 : f 44 = .bool false := hd.2.2.1 rfl
            clear hd
            simp only [e48, e53, e44] at hK
            have hK := Lib.hid hK
            go_wp2
            exact hK.out _ _ rfl (Below.refl _ _) (fun h => by cases h)
          refine steps2_cons ?_ ?_
          · intro f w1 hb hd Q hK
            have e54 : f 54 = undef := hd.1 rfl
            have e44 : f 44 = .bool false := hd.2.1 rfl
            clear hd
            simp only [e54, e44] at hK
            have hK := Lib.hid hK
            go_wp2
            exact hK.out _ _ rfl (Below.refl _ _) (fun h => by cases h)
          refine steps2_cons ?_ ?_
          · intro f w1 hb hd Q hK
            have e44 : f 44 = .bool false := hd.1 rfl
            have e55 : f 55 = undef := hd.2.1 rfl
            have e39 : f 39 = .bool false := hd.2.2.1 rfl
            clear hd
            simp only [e44, e55, e39] at hK
            have hK := Lib.hid hK
            go_wp2
            exact hK.out _ _ rfl (Below.refl _ _) (fun h => by cases h)
          refine steps2_cons ?_ ?_
          · intro f w1 hb hd Q hK
            have e39 : f 39 = .bool false := hd.1 rfl
            have e56 : f 56 = .bool false := hd.2.1 rfl
            clear hd
            simp only [e39, e56] at hK
            have hK := Lib.hid hK
            go_wp2
            exact hK.out _ _ rfl (Below.refl _ _) (fun h => by cases h)
          trivial
        · intro f w1 hb2 hf hne
          refine wpList_nil ?_
          have d57 : f 57 = .bool false := hf 34 _ _ (by decide) rfl rfl
          clear hf hne
          simp only [d57]
          clear d57
          have hb9 := hb.trans (hb2.mono hb.size)
          go_wp2
          exact ⟨⟨k + 1, by omega, by rw [Int.natCast_add]; rfl, hb9⟩, by simp [intOf]; omega⟩
      · have hkn1 : (n : Int) ≤ (k : Int) := by omega
        obtain ⟨i, hi⟩ : ∃ i, k = n + i := ⟨k - n, by omega⟩
        have hi1 : (k : Int) - (n : Int) = (i : Int) := by omega
        have hi2 : (i : Int) < 12 := by omega
        have hi3 : (0 : Int) ≤ (i : Int) := by omega
        have hi4 : i < 12 := by omega
        have hnk : ¬ (k : Int) < (n : Int) := by omega
        have hkn2 : decide (k < n) = false := decide_eq_false (by omega)
        have hkn3 : decide (n ≤ k) = true := decide_eq_true (by omega)
        have hm2 := hm.out i hi4
        rw [← hi] at hm2
        rw [hm2.1] at cx
        rw [hm2.2] at cy
        have hmk := markDot_c 1 i (by omega) (by omega)
        generalize mk 1 (i : Int) = x at *
        have hx : (x == x) = true := beq_self_eq_true _
        have hg : g0 < wr.heap.size := Nat.lt_of_lt_of_le hg hb.size
        replace hmk := Lib.hid hmk
        clear hk hend hi hm2
        go_wp2
        refine wp_region_grow2 35 (fun k => (Nat.ble 23 k && Nat.ble k 57)) _ [] (fun j x' q => (kd1L p n c cap g0 k i x).getD j (fun _ _ => True) x' q) (fun _ => false) (fun f => #[.slice (some ⟨g0, 0, none⟩) n cap, .slice p n c, undef, undef, u4, .slice (some ⟨g0, 0, none⟩) (n + 12) cap, .int .i64 k, .slice (some ⟨g0, 0, none⟩) n cap, .int .i64 n, .slice p n c, .int .i64 n, .bool false, .slice (some ⟨g0, 0, none⟩) n cap, .slice p n c, .int .i64 n, .int .i64 (n + 12), .slice (some ⟨g0, 0, none⟩) (n + 12) cap, .int .i64 k, .slice (some ⟨g0, 0, none⟩) (n + 12) cap, .int .i64 (n + 12), .bool true, u21, u22, f 23, f 24, f 25, f 26, f 27, f 28, f 29, f 30, f 31, f 32, f 33, f 34, f 35, f 36, f 37, f 38, f 39, f 40, f 41, f 42, f 43, f 44, f 45, f 46, f 47, f 48, f 49, f 50, f 51, f 52, f 53, f 54, f 55, f 56, f 57]) (fun f => rfl) (by kernel_rfl) (by kernel_rfl) (by kernel_rfl) (by kernel_rfl) (by kernel_rfl) (kd1S _ _ _ _ _ _ _ _) (fun _ _ _ h => by cases h) ?_ ?_
        · refine steps2_cons ?_ ?_
          · intro f w1 hb hd Q hK
            clear hd
            have hK := Lib.hid hK
            go_wp2
            exact hK.out _ _ rfl (Below.refl _ _) (fun h => by cases h)
          refine steps2_cons ?_ ?_
          · intro f w1 hb hd Q hK
            clear hd
            have hK := Lib.hid hK
            go_wp2
            exact hK.out _ _ rfl (Below.refl _ _) (fun h => by cases h)
          refine steps2_cons ?_ ?_
          · intro f w1 hb hd Q hK
            have e24 : f 24 = .slice p n c := hd.1 rfl
            clear hd
            simp only [e24] at hK
            have hK := Lib.hid hK
            go_wp2
            exact hK.out _ _ rfl (Below.refl _ _) (fun h => by cases h)
          refine steps2_cons ?_ ?_
          · intro f w1 hb hd Q hK
            have e23 : f 23 = .int .i64 k := hd.1 rfl
            have e25 : f 25 = .int .i64 n := hd.2.1 rfl
            clear hd
            simp only [e23, e25] at hK
            have hK := Lib.hid hK
            go_wp2
            exact hK.out _ _ rfl (Below.refl _ _) (fun h => by cases h)
          refine steps2_cons ?_ ?_
          · intro f w1 hb hd Q hK
            have e26 : f 26 = .bool false := hd.1 rfl
            clear hd
            simp only [e26] at hK
            have hK := Lib.hid hK
            go_wp2
            exact hK.out _ _ rfl (Below.refl _ _) (fun h => by cases h)
          refine steps2_cons ?_ ?_
          · intro f w1 hb hd Q hK
            have e27 : f 27 = .bool false := hd.1 rfl
            clear hd
            simp only [e27] at hK
            have hK := Lib.hid hK
            go_wp2
            exact hK.out _ _ rfl (Below.refl _ _) (fun h => by cases h)
          refine steps2_cons ?_ ?_
          · intro f w1 hb hd Q hK
            have e27 : f 27 = .bool false := hd.1 rfl
            clear hd
            simp only [e27] at hK
            have hK := Lib.hid hK
            go_wp2
            exact hK.out _ _ rfl (Below.refl _ _) (fun h => by cases h)
          refine steps2_cons ?_ ?_
          · intro f w1 hb hd Q hK
            have e28 : f 28 = undef := hd.1 rfl
            have e29 : f 29 = undef := hd.2.1 rfl
            have e27 : f 27 = .bool false := hd.2.2.1 rfl
            clear hd
            simp only [e28, e29, e27] at hK
            have hK := Lib.hid hK
            go_wp2
            exact hK.out _ _ rfl (Below.refl _ _) (fun h => by cases h)
          refine steps2_cons ?_ ?_
          · intro f w1 hb hd Q hK
            have e30 : f 30 = undef := hd.1 rfl
            have e27 : f 27 = .bool false := hd.2.1 rfl
            clear hd
            simp only [e30, e27] at hK
            have hK := Lib.hid hK
            go_wp2
            exact hK.out _ _ rfl (Below.refl _ _) (fun h => by cases h)
          refine steps2_cons ?_ ?_
          · intro f w1 hb hd Q hK
            have e27 : f 27 = .bool false := hd.1 rfl
            clear hd
            simp only [e27] at hK
            have hK := Lib.hid hK
            go_wp2
            exact hK.out _ _ rfl (Below.refl _ _) (fun h => by cases h)
          refine steps2_cons ?_ ?_
          · intro f w1 hb hd Q hK
            have e27 : f 27 = .bool false := hd.1 rfl
            clear hd
            simp only [e27] at hK
            have hK := Lib.hid hK
            go_wp2
            exact hK.out _ _ rfl (Below.refl _ _) (fun h => by cases h)
          refine steps2_cons ?_ ?_
          · intro f w1 hb hd Q hK
            have e32 : f 32 = undef := hd.1 rfl
            have e33 : f 33 = undef := hd.2.1 rfl
            have e27 : f 27 = .bool false := hd.2.2.1 rfl
            clear hd
            simp only [e32, e33, e27] at hK
            have hK := Lib.hid hK
            go_wp2
            exact hK.out _ _ rfl (Below.refl _ _) (fun h => by cases h)
          refine steps2_cons ?_ ?_
          · intro f w1 hb hd Q hK
            have e34 : f 34 = undef := hd.1 rfl
            have e27 : f 27 = .bool false := hd.2.1 rfl
            clear hd
            simp only [e34, e27] at hK
            have hK := Lib.hid hK
            go_wp2
            exact hK.out _ _ rfl (Below.refl _ _) (fun h => by cases h)
          refine steps2_cons ?_ ?_
          · intro f w1 hb hd Q hK
            have e31 : f 31 = undef := hd.1 rfl
            have e35 : f 35 = undef := hd.2.1 rfl
            have e27 : f 27 = .bool false := hd.2.2.1 rfl
            clear hd
            simp only [e31, e35, e27] at hK
            have hK := Lib.hid hK
            go_wp2
            exact hK.out _ _ rfl (Below.refl _ _) (fun h => by cases h)
          refine steps2_cons ?_ ?_
          · intro f w1 hb hd Q hK
            have e36 : f 36 = undef := hd.1 rfl
            have e27 : f 27 = .bool false := hd.2.1 rfl
            clear hd
            simp only [e36, e27] at hK
            have hK := Lib.hid hK
            go_wp2
            exact hK.out _ _ rfl (Below.refl _ _) (fun h => by cases h)
          refine steps2_cons ?_ ?_
          · intro f w1 hb hd Q hK
            have e27 : f 27 = .bool false := hd.1 rfl
            have e37 : f 37 = undef := hd.2.1 rfl
            clear hd
            simp only [e27, e37] at hK
            have hK := Lib.hid hK
            go_wp2
            exact hK.out _ _ rfl (Below.refl _ _) (fun h => by cases h)
          refine steps2_cons ?_ ?_
          · intro f w1 hb hd Q hK
            have e38 : f 38 = .bool false := hd.1 rfl
            clear hd
            simp only [e38] at hK
            have hK := Lib.hid hK
            go_wp2
            exact hK.out _ _ rfl (Below.refl _ _) (fun h => by cases h)
          refine steps2_cons ?_ ?_
          · intro f w1 hb hd Q hK
            have e39 : f 39 = .bool false := hd.1 rfl
            clear hd
            simp only [e39] at hK
            have hK := Lib.hid hK
            go_wp2
            exact hK.out _ _ rfl (Below.refl _ _) (fun h => by cases h)
          refine steps2_cons ?_ ?_
          · intro f w1 hb hd Q hK
            have e39 : f 39 = .bool false := hd.1 rfl
            clear hd
            simp only [e39] at hK
            have hK := Lib.hid hK
            go_wp2
            exact hK.out _ _ rfl (Below.refl _ _) (fun h => by cases h)
          refine steps2_cons ?_ ?_
          · intro f w1 hb hd Q hK
            have e41 : f 41 = .slice p n c := hd.1 rfl
            have e39 : f 39 = .bool false := hd.2.1 rfl
            clear hd
            simp only [e41, e39] at hK
            have hK := Lib.hid hK
            go_wp2
            exact hK.out _ _ rfl (Below.refl _ _) (fun h => by cases h)
          refine steps2_cons ?_ ?_
          · intro f w1 hb hd Q hK
            have e40 : f 40 = .int .i64 k := hd.1 rfl
            have e42 : f 42 = .int .i64 n := hd.2.1 rfl
            have e39 : f 39 = .bool false := hd.2.2.1 rfl
            clear hd
            simp only [e40, e42, e39] at hK
            have hK := Lib.hid hK
            go_wp2
            exact hK.out _ _ rfl (Below.refl _ _) (fun h => by cases h)
          refine steps2_cons ?_ ?_
          · intro f w1 hb hd Q hK
            have e43 : f 43 = .bool true := hd.1 rfl
            have e39 : f 39 = .bool false := hd.2.1 rfl
            clear hd
            simp only [e43, e39] at hK
            have hK := Lib.hid hK
            go_wp2
            exact hK.out _ _ rfl (Below.refl _ _) (fun h => by cases h)
          refine steps2_cons ?_ ?_
          · intro f w1 hb hd Q hK
            have e44 : f 44 = .bool true := hd.1 rfl
            clear hd
            simp only [e44] at hK
            have hK := Lib.hid hK
            go_wp2
            exact hK.out _ _ rfl (Below.refl _ _) (fun h => by cases h)
          refine steps2_cons ?_ ?_
          · intro f w1 hb hd Q hK
            have e44 : f 44 = .bool true := hd.1 rfl
            clear hd
            simp only [e44] at hK
            have hK := Lib.hid hK
            go_wp2
            exact hK.out _ _ rfl (Below.refl _ _) (fun h => by cases h)
          refine steps2_cons ?_ ?_
          · intro f w1 hb hd Q hK
            have e45 : f 45 = .slice (some ⟨g0, 0, none⟩) (n + 12) cap := hd.1 rfl
            have e46 : f 46 = .int .i64 k := hd.2.1 rfl
            have e44 : f 44 = .bool true := hd.2.2.1 rfl
            clear hd
            simp only [e45, e46, e44] at hK
            have hK := Lib.hid hK
            go_wp2
            exact hK.out _ _ rfl (Below.refl _ _) (fun h => by cases h)
          refine steps2_cons ?_ ?_
          · intro f w1 hb hd Q hK
            have e47 : f 47 = .pointer (some ⟨g0, k * 2, none⟩) := hd.1 rfl
            have e44 : f 44 = .bool true := hd.2.1 rfl
            clear hd
            simp only [e47, e44] at hK
            have hK := Lib.hid hK
            have c0 := (hb.cell (p := ⟨g0, k * 2, none⟩) hg).trans cx
            have c1 := (hb.cell (p := ⟨g0, k * 2 + 1, none⟩) hg).trans cy
            go_wp2
            exact hK.out _ _ rfl (Below.refl _ _) (fun h => by cases h)
          refine steps2_cons ?_ ?_
          · intro f w1 hb hd Q hK
            have e44 : f 44 = .bool true := hd.1 rfl
            clear hd
            simp only [e44] at hK
            have hK := Lib.hid hK
            go_wp2
            exact hK.out _ _ rfl (Below.refl _ _) (fun h => by cases h)
          refine steps2_cons ?_ ?_
          · intro f w1 hb hd Q hK
            have e44 : f 44 = .bool true := hd.1 rfl
            clear hd
            simp only [e44] at hK
            have hK := Lib.hid hK
            go_wp2
            exact hK.out _ _ rfl (Below.refl _ _) (fun h => by cases h)
          refine steps2_cons ?_ ?_
          · intro f w1 hb hd Q hK
            have e50 : f 50 = .slice p n c := hd.1 rfl
            have e44 : f 44 = .bool true := hd.2.1 rfl
            clear hd
            simp only [e50, e44] at hK
            have hK := Lib.hid hK
            go_wp2
            exact hK.out _ _ rfl (Below.refl _ _) (fun h => by cases h)
          refine steps2_cons ?_ ?_
          · intro f w1 hb hd Q hK
            have e49 : f 49 = .int .i64 k := hd.1 rfl
            have e51 : f 51 = .int .i64 n := hd.2.1 rfl
            have e44 : f 44 = .bool true := hd.2.2.1 rfl
            clear hd
            simp only [e49, e51, e44] at hK
            have hK := Lib.hid hK
            go_wp2
            exact hK.out _ _ rfl (Below.refl _ _) (fun h => by cases h)
          refine steps2_cons ?_ ?_
          · intro f w1 hb hd Q hK
            have e52 : f 52 = .int .i64 i := hd.1 rfl
            have e44 : f 44 = .bool true := hd.2.1 rfl
            clear hd
            simp only [e52, e44] at hK
            have hK := Lib.hid hK
            go_wp2_with fail
            refine (hmk.out _).mono ?_
            rintro e w2 ⟨rfl, hb2⟩
            go_wp2
            exact hK.out _ _ rfl hb2 (fun h => by cases h)
          refine steps2_cons ?_ ?_
          · intro f w1 hb hd Q hK
            have e48 : f 48 = .agg #[.int .i64 0, .int .i64 x] := hd.1 rfl
            have e53 : f 53 = .agg #[.int .i64 0, .int .i64 x] := hd.2.1 rfl
            have e44 : f 44 = .bool true := hd.2.2.1 rfl
            clear hd
            simp only [e48, e53, e44] at hK
            have hK := Lib.hid hK
            go_wp2
            exact hK.out _ _ rfl (Below.refl _ _) (fun h => by cases h)
          refine steps2_cons ?_ ?_
          · intro f w1 hb hd Q hK
            have e54 : f 54 = .bool true := hd.1 rfl
            have e44 : f 44 = .bool true := hd.2.1 rfl
            clear hd
            simp only [e54, e44] at hK
            have hK := Lib.hid hK
            go_wp2
            exact hK.out _ _ rfl (Below.refl _ _) (fun h => by cases h)
          refine steps2_cons ?_ ?_
          · intro f w1 hb hd Q hK
            have e44 : f 44 = .bool true := hd.1 rfl
            have e55 : f 55 = .bool false := hd.2.1 rfl
            have e39 : f 39 = .bool false := hd.2.2.1 rfl
            clear hd
            simp only [e44, e55, e39] at hK
            have hK := Lib.hid hK
            go_wp2
            exact hK.out _ _ rfl (Below.refl _ _) (fun h => by cases h)
          refine steps2_cons ?_ ?_
          · intro f w1 hb hd Q hK
            have e39 : f 39 = .bool false := hd.1 rfl
            have e56 : f 56 = .bool false := hd.2.1 rfl
            clear hd
            simp only [e39, e56] at hK
            have hK := Lib.hid hK
            go_wp2
            exact hK.out _ _ rfl (Below.refl _ _) (fun h => by cases h)
          trivial
        · intro f w1 hb2 hf hne
          refine wpList_nil ?_
          have d57 : f 57 = .bool false := hf 34 _ _ (by decide) rfl rfl
          clear hf hne
          simp only [d57]
          clear d57
          have hb9 := hb.trans (hb2.mono hb.size)
          go_wp2
          exact ⟨⟨k + 1, by omega, by rw [Int.natCast_add]; rfl, hb9⟩, by simp [intOf]; omega⟩
end Go.Proofs.YtiimojhdpmkeoaaGreat
