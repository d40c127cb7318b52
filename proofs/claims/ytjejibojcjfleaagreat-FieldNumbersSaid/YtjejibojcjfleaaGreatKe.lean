/- The walk of KeptBytes. -/
import Derived.Test.YtjejibojcjfleaaGreatKd
namespace Go.Proofs.YtjejibojcjfleaaGreat
open Go.RowKit
theorem kdrewN {B : Nat} {a w : World} (h : Below B a w) (n : Nat) : Below B a (w.drewN n) := h.trans ⟨rfl, rfl, rfl, Nat.le_refl _, fun _ _ => rfl⟩
set_option maxRecDepth 20000 in
set_option maxRecDepth 20000 in
set_option maxHeartbeats 2000000 in
theorem keptBytes_s (g0 g o n c : Nat) (b : Nat → Int) (hn : n ≤ 1000000) (w : World) (hR : RowB w g0 (n + 12) (n + 12) (lentF n b)) (hg : g < w.heap.size) (hc : ∀ j, j < n → w.cell? ⟨g, o + j, none⟩ = some (.int .u8 (b j))) :
    Calls Tryz.prog 9 #[.slice (some ⟨g0, 0, none⟩) n (n + 12), .slice (some ⟨g, o, none⟩) n c] w fun e w' => e = .returned (.bool true) ∧ Below w.heap.size w w' := by
  have hl : ∀ j, j < n → lentF n b j = b j := fun j hj => by unfold lentF; rw [if_pos hj]
  have hm : ∀ k : Nat, lentF n b (n + k) = mb 1 k := fun k => by unfold lentF; rw [if_neg (by omega), Nat.add_sub_cancel_left]
  generalize lentF n b = L at *
  have hcR := hR.cell
  replace hl := Lib.hid hl
  replace hm := Lib.hid hm
  replace hc := Lib.hid hc
  replace hcR := Lib.hid hcR
  have hRlt := hR.lt
  clear hR
  have hn0 : (0 : Int) ≤ (n : Int) := by omega
  have hn1 : (n : Int) ≤ 1000000 := by omega
  go_enter Tryz.func9, Tryz.ntmps9
  go_wp2
  go_loopw [6] (fun i wr => ∃ k : Nat, k ≤ n + 12 ∧ i = .int .i64 k ∧ Below w.heap.size w wr) (fun i _ => (n + 12 - intOf i).toNat)
  case atStart => exact ⟨0, by omega, rfl, Below.refl _ _⟩
  case round =>
    obtain ⟨k, hk, hi', hb⟩ := hrel
    subst hi'
    have hk0 : (0 : Int) ≤ (k : Int) := by omega
    by_cases hend : k = n + 12
    · have hk1 : (k : Int) = (n : Int) + 12 := by omega
      subst hend
      go_wp2
      go_returns
      exact ⟨rfl, hb⟩
    · have hk1 : (k : Int) < (n : Int) + 12 := by omega
      have cR := (hb.cell (p := ⟨g0, k, none⟩) hRlt).trans (hcR.out k (by omega))
      by_cases hkn : k < n
      · have hkn1 : (k : Int) < (n : Int) := by omega
        have hkn2 : decide ((k : Int) < (n : Int)) = true := decide_eq_true hkn1
        have hkn3 : decide (n ≤ k) = false := decide_eq_false (by omega)
        have cc := (hb.cell (p := ⟨g, o + k, none⟩) hg).trans (hc.out k hkn)
        rw [hl.out k hkn] at cR
        have hx : (b k == b k) = true := beq_self_eq_true _
        clear hk hend
        go_wp2
        go_quiet (fail)
        go_wp2
        exact ⟨⟨k + 1, by omega, by rw [Int.natCast_add]; rfl, hb.trans (kdrewN (Below.refl _ _) _)⟩, by simp [intOf]; omega⟩
      · have hkn1 : (n : Int) ≤ (k : Int) := by omega
        obtain ⟨i, hi⟩ : ∃ i, k = n + i := ⟨k - n, by omega⟩
        have hi1 : (k : Int) - (n : Int) = (i : Int) := by omega
        have hi2 : (i : Int) < 12 := by omega
        have hi3 : (0 : Int) ≤ (i : Int) := by omega
        have hi4 : i < 12 := by omega
        have hkn2 : decide (k < n) = false := decide_eq_false (by omega)
        have hkn3 : decide (n ≤ k) = true := decide_eq_true (by omega)
        have hmk := hm.out i
        rw [← hi] at hmk
        rw [hmk] at cR
        have hmc : ∀ q, Calls Tryz.prog 24 #[.int .i64 1, .int .i64 i] (wr.drewN q) fun e w'' => e = .returned (.int .u8 (mb 1 i)) ∧ ∃ m, w'' = wr.drewN m := fun q => (markByte_c 1 i (by omega) (by omega) _).mono fun _ _ h => ⟨h.1, q, h.2.symm⟩
        have hx : (mb 1 i == mb 1 i) = true := beq_self_eq_true _
        replace hmc := Lib.hid hmc
        clear hk hend hi hmk
        generalize mb 1 (i : Int) = x at *
        go_wp2
        go_quiet (first | (exact hmc.out _))
        go_wp2
        exact ⟨⟨k + 1, by omega, by rw [Int.natCast_add]; rfl, hb.trans (kdrewN (Below.refl _ _) _)⟩, by simp [intOf]; omega⟩
set_option maxRecDepth 20000 in
set_option maxRecDepth 20000 in
set_option maxHeartbeats 2000000 in
theorem keptBytes_0 (g0 : Nat) (b : Nat → Int) (w : World) (hR : RowB w g0 12 12 (lentF 0 b)) :
    Calls Tryz.prog 9 #[.slice (some ⟨g0, 0, none⟩) 0 12, .slice none 0 0] w fun e w' => e = .returned (.bool true) ∧ Below w.heap.size w w' := by
  have hm : ∀ k : Nat, lentF 0 b k = mb 1 k := fun k => by unfold lentF; rw [if_neg (by omega), Nat.sub_zero]
  generalize lentF 0 b = L at *
  have hcR := hR.cell
  replace hm := Lib.hid hm
  replace hcR := Lib.hid hcR
  have hRlt := hR.lt
  clear hR
  go_enter Tryz.func9, Tryz.ntmps9
  go_wp2
  go_loopw [6] (fun i wr => ∃ k : Nat, k ≤ 12 ∧ i = .int .i64 k ∧ Below w.heap.size w wr) (fun i _ => (12 - intOf i).toNat)
  case atStart => exact ⟨0, by omega, rfl, Below.refl _ _⟩
  case round =>
    obtain ⟨k, hk, hi', hb⟩ := hrel
    subst hi'
    have hk0 : (0 : Int) ≤ (k : Int) := by omega
    by_cases hend : k = 12
    · have hk1 : (k : Int) = 12 := by omega
      subst hend
      go_wp2
      go_returns
      exact ⟨rfl, hb⟩
    · have hk1 : (k : Int) < 12 := by omega
      have hk2 : k < 12 := by omega
      have cR := (hb.cell (p := ⟨g0, k, none⟩) hRlt).trans (hcR.out k (by omega))
      rw [hm.out k] at cR
      have hmc : ∀ q, Calls Tryz.prog 24 #[.int .i64 1, .int .i64 k] (wr.drewN q) fun e w'' => e = .returned (.int .u8 (mb 1 k)) ∧ ∃ m, w'' = wr.drewN m := fun q => (markByte_c 1 k (by omega) (by omega) _).mono fun _ _ h => ⟨h.1, q, h.2.symm⟩
      have hx : (mb 1 k == mb 1 k) = true := beq_self_eq_true _
      replace hmc := Lib.hid hmc
      have hkn2 : decide ((k : Int) < 0) = false := decide_eq_false (by omega)
      have hkn3 : decide ((0 : Int) ≤ (k : Int)) = true := decide_eq_true hk0
      clear hk hend
      generalize mb 1 (k : Int) = x at *
      go_wp2
      go_quiet (first | (exact hmc.out _))
      go_wp2
      exact ⟨⟨k + 1, by omega, by rw [Int.natCast_add]; rfl, hb.trans (kdrewN (Below.refl _ _) _)⟩, by simp [intOf]; omega⟩
end Go.Proofs.YtjejibojcjfleaaGreat
