/- The walk of KeptBytes: whatever bytes. -/
import Derived.Test.YtiimojhdpmkeoaaGreatLr2
import Derived.Test.YtiimojhdpmkeoaaGreatKe2
namespace Go.Proofs.YtiimojhdpmkeoaaGreat
open Go.RowKit
theorem kdrewN {B : Nat} {a w : World} (h : Below B a w) (n : Nat) : Below B a (w.drewN n) := h.trans ⟨rfl, rfl, rfl, Nat.le_refl _, fun _ _ => rfl⟩
set_option maxRecDepth 20000 in
set_option maxHeartbeats 2000000 in
theorem keptBytes_c (g0 cap : Nat) (p : Option Addr) (n c : Nat) (xs : List Int) (hnl : n = xs.length) (hn : n ≤ 1000000) (hcap : n + 12 ≤ cap) (w : World) (hR : BytesL w (some ⟨g0, 0, none⟩) (xs ++ marksB 12)) (hD : BytesL w p xs) :
    Calls Tryz.prog 32 #[.slice (some ⟨g0, 0, none⟩) n cap, .slice p n c] w fun e w' => e = .returned (.bool true) ∧ Below w.heap.size w w' := by
  have hl : ∀ j, j < n → (xs ++ marksB 12).getD j 0 = xs.getD j 0 := fun j hj => by
    rw [List.getD_eq_getElem?_getD, List.getElem?_append_left (by omega), List.getD_eq_getElem?_getD]
  have hm : ∀ i, i < 12 → (xs ++ marksB 12).getD (n + i) 0 = mb 1 i := fun i hi => by
    have h2 := marksB_at 12 i hi
    simp only [List.getD_eq_getElem?_getD] at h2 ⊢
    rw [List.getElem?_append_right (by omega), show n + i - xs.length = i by omega]
    exact h2
  have hlen : (xs ++ marksB 12).length = n + 12 := by rw [List.length_append, marksB_len]; omega
  obtain ⟨g', o', e1, hg, hcR⟩ := hR (by omega)
  simp only [Option.some.injEq, Addr.mk.injEq, and_true] at e1
  obtain ⟨rfl, rfl⟩ := e1
  simp only [Nat.zero_add] at hcR
  rw [hlen] at hcR
  have hD2 : 0 < n → _ := fun h => hD (by omega)
  rw [← hnl] at hD2
  generalize xs ++ marksB 12 = L at *
  clear hR hD
  replace hl := Lib.hid hl
  replace hm := Lib.hid hm
  replace hD2 := Lib.hid hD2
  replace hcR := Lib.hid hcR
  have hn0 : (0 : Int) ≤ (n : Int) := by omega
  have hn1 : (n : Int) ≤ 1000000 := by omega
  have hcap2 : (n : Int) + 12 ≤ (cap : Int) := by omega
  clear hnl hlen
  go_enter Tryz.func32, Tryz.ntmps32
  go_wp2
  go_loopw [6] (fun i wr => ∃ k : Nat, k ≤ n + 12 ∧ i = .int .i64 k ∧ Below w.heap.size w wr) (fun i _ => (n + 12 - intOf i).toNat)
  case atStart => exact ⟨0, by omega, rfl, Below.refl _ _⟩
  case round =>
    obtain ⟨k, hk, hi', hb⟩ := hrel
    subst hi'
    have hk0 : (0 : Int) ≤ (k : Int) := by omega
    by_cases hend : k = n + 12
    · have hk1 : (k : Int) = (n : Int) + 12 := by omega
      subst hend
      go_wp2
      go_returns
      exact ⟨rfl, hb⟩
    · have hk1 : (k : Int) < (n : Int) + 12 := by omega
      have cR := (hb.cell (p := ⟨g0, k, none⟩) hg).trans (hcR.out k (by omega))
      by_cases hkn : k < n
      · have hkn1 : (k : Int) < (n : Int) := by omega
        have hkn2 : decide ((k : Int) < (n : Int)) = true := decide_eq_true hkn1
        have hkn3 : decide (n ≤ k) = false := decide_eq_false (by omega)
        obtain ⟨g, o, rfl, hg2, h2⟩ := hD2.out (by omega)
        have cc : wr.cell? ⟨g, o + k, none⟩ = some (.int .u8 (xs.getD k 0)) := (hb.cell (p := ⟨g, o + k, none⟩) hg2).trans (h2 k hkn)
        rw [hl.out k hkn] at cR
        generalize xs.getD k 0 = x at *
        have hx : (x == x) = true := beq_self_eq_true _
        clear hk hend h2
        go_wp2
        go_quiet (fail)
        go_wp2
        exact ⟨⟨k + 1, by omega, by rw [Int.natCast_add]; rfl, hb.trans (kdrewN (Below.refl _ _) _)⟩, by simp [intOf]; omega⟩
      · have hkn1 : (n : Int) ≤ (k : Int) := by omega
        obtain ⟨i, hi⟩ : ∃ i, k = n + i := ⟨k - n, by omega⟩
        have hi1 : (k : Int) - (n : Int) = (i : Int) := by omega
        have hi2 : (i : Int) < 12 := by omega
        have hi3 : (0 : Int) ≤ (i : Int) := by omega
        have hi4 : i < 12 := by omega
        have hkn2 : decide ((k : Int) < (n : Int)) = false := decide_eq_false (by omega)
        have hkn3 : decide (n ≤ k) = true := decide_eq_true (by omega)
        have hmk := hm.out i hi4
        rw [← hi] at hmk
        rw [hmk] at cR
        have hmc : ∀ q, Calls Tryz.prog 36 #[.int .i64 1, .int .i64 i] (wr.drewN q) fun e w'' => e = .returned (.int .u8 (mb 1 i)) ∧ ∃ m, w'' = wr.drewN m := fun q => (markByte_c 1 i (by omega) (by omega) _).mono fun _ _ h => ⟨h.1, q, h.2.symm⟩
        have hx : (mb 1 i == mb 1 i) = true := beq_self_eq_true _
        replace hmc := Lib.hid hmc
        clear hk hend hi hmk
        generalize mb 1 (i : Int) = x at *
        go_wp2
        go_quiet (first | (exact hmc.out _))
        go_wp2
        exact ⟨⟨k + 1, by omega, by rw [Int.natCast_add]; rfl, hb.trans (kdrewN (Below.refl _ _) _)⟩, by simp [intOf]; omega⟩
end Go.Proofs.YtiimojhdpmkeoaaGreat
