/- Roots modulo p: what the law FieldRoots asks. Plain. -/
import Derived.Test.YtpaldgajkhmhbaaDoorRq
namespace Fe
open Go.Proofs.YtpaldgajkhmhbaaDoor
theorem P_pos : 0 < P := by have := P_one; omega
theorem P_odd : P % 2 = 1 := by unfold P; decide
theorem r0_lt (U V : Nat) : r0N U V < P := Nat.mod_lt _ P_pos
theorem rN_lt (U V : Nat) : rN U V < P := by
  unfold rN
  split
  · exact fN_lt (r0_lt U V)
  split
  · exact fN_lt (Nat.mod_lt _ P_pos)
  exact P_pos
theorem rN_even {U V : Nat} : rN U V % 2 = 0 := by
  unfold rN
  split
  · exact fN_even (r0_lt U V)
  split
  · exact fN_even (Nat.mod_lt _ P_pos)
  rfl
theorem neg_neg {U : Nat} (h : U < P) : (P - (P - U) % P) % P = U := by
  rcases Nat.eq_zero_or_pos U with h0 | h0
  · subst h0; simp
  rw [Nat.mod_eq_of_lt (show P - U < P by omega), show P - (P - U) = U by omega, Nat.mod_eq_of_lt h]
theorem turn_sq {r K U V : Nat} (hK : K * K % P = P - 1) (hU : U < P) (h : r * r % P * V % P = (P - U) % P) : r * K % P * (r * K % P) % P * V % P = U := by
  rw [← Nat.mul_mod, Nat.mod_mul_mod]
  have e : r * K * (r * K) * V = (r * r * V) * (K * K) := by grind
  rw [Nat.mod_mul_mod] at h
  rw [e, Nat.mul_mod, hK, h, neg_mod (Nat.mod_lt _ P_pos), neg_neg hU]
theorem rN_sq {U V : Nat} (hU : U < P) (h : bN U V = true) : rN U V * rN U V % P * V % P = U := by
  unfold bN at h
  unfold rN
  by_cases ha : isN (r0N U V) V = U
  · rw [if_pos ha, fN_sq (r0_lt U V)]
    exact ha
  have hb : isN (r0N U V) V = (P - U) % P := by simpa [ha] using h
  rw [if_neg ha, if_pos hb, fN_sq (Nat.mod_lt _ P_pos)]
  exact turn_sq KK_sq hU hb
theorem sqd {A d V : Nat} (h : (A + d) * (A + d) * V % P = A * A * V % P) : P ∣ d * (A + A + d) * V := by
  have e : (A + d) * (A + d) * V = A * A * V + d * (A + A + d) * V := by grind
  rw [e] at h
  have h1 := Nat.sub_mod_eq_zero_of_mod_eq h
  rw [Nat.add_sub_cancel_left] at h1
  exact Nat.dvd_of_mod_eq_zero h1
theorem pm_up {A d V : Nat} (hr : A + d < P) (hV : V < P) (hV0 : V ≠ 0) (h : (A + d) * (A + d) * V % P = A * A * V % P) : d = 0 ∨ A + d = (P - A) % P := by
  rcases Nt.Pr.dvd_mul prP (sqd h) with hd | hd
  · rcases Nt.Pr.dvd_mul prP hd with hd | hd
    · left
      rcases Nat.eq_zero_or_pos d with h0 | h0
      · exact h0
      exact absurd (Nat.le_of_dvd h0 hd) (by omega)
    rcases Nat.eq_zero_or_pos d with h0 | h0
    · exact .inl h0
    right
    obtain ⟨q, hq⟩ := hd
    have hq1 : q = 1 := by
      rcases Nat.lt_or_ge q 1 with h1 | h1
      · have : q = 0 := by omega
        subst this
        simp at hq
        omega
      rcases Nat.lt_or_ge q 2 with h2 | h2
      · omega
      have := Nat.mul_le_mul_left P h2
      omega
    subst hq1
    rw [Nat.mul_one] at hq
    have hA : A ≠ 0 := by omega
    rw [Nat.mod_eq_of_lt (by omega)]
    omega
  exact absurd hd (not_dvd hV hV0)
theorem neg_swap {r A : Nat} (hr : r < P) (h : A = (P - r) % P) : r = (P - A) % P := by
  rw [h, neg_neg hr]
theorem root_pm {r A V : Nat} (hr : r < P) (hA : A < P) (hV : V < P) (hV0 : V ≠ 0) (h : r * r % P * V % P = A * A % P * V % P) : r = A ∨ r = (P - A) % P := by
  rw [Nat.mod_mul_mod, Nat.mod_mul_mod] at h
  rcases Nat.le_total A r with hle | hle
  · obtain ⟨d, rfl⟩ : ∃ d, r = A + d := ⟨r - A, by omega⟩
    rcases pm_up hr hV hV0 h with h1 | h1
    · left; omega
    right; exact h1
  obtain ⟨d, rfl⟩ : ∃ d, A = r + d := ⟨A - r, by omega⟩
  rcases pm_up hA hV hV0 h.symm with h1 | h1
  · left; omega
  right; exact neg_swap hr h1
end Fe
