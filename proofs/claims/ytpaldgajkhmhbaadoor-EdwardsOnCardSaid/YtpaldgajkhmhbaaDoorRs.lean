/- Roots modulo p: what the law FieldRoots asks. Plain. -/
import Derived.Test.YtpaldgajkhmhbaaDoorRq
namespace Fe
open Go.Proofs.YtpaldgajkhmhbaaDoor
theorem P_pos : 0 < P := by have := P_one; omega
theorem P_odd : P % 2 = 1 := by unfold P; decide
theorem r0_lt (U V : Nat) : r0N U V < P := Nat.mod_lt _ P_pos
theorem rN_lt (U V : Nat) : rN U V < P := by
  unfold rN
  split
  · exact fN_lt (r0_lt U V)
  · split
    · exact fN_lt (Nat.mod_lt _ P_pos)
    · exact P_pos
theorem rN_even {U V : Nat} : rN U V % 2 = 0 := by
  unfold rN
  split
  · exact fN_even (r0_lt U V)
  · split
    · exact fN_even (Nat.mod_lt _ P_pos)
    · rfl
theorem neg_neg {U : Nat} (h : U < P) : (P - (P - U) % P) % P = U := by
  rcases Nat.eq_zero_or_pos U with h0 | h0
  · subst h0; simp
  · rw [Nat.mod_eq_of_lt (show P - U < P by omega), show P - (P - U) = U by omega, Nat.mod_eq_of_lt h]
theorem turn_sq {r K U V : Nat} (hK : K * K % P = P - 1) (hU : U < P) (h : r * r % P * V % P = (P - U) % P) : r * K % P * (r * K % P) % P * V % P = U := by
  rw [← Nat.mul_mod, Nat.mod_mul_mod]
  have e : r * K * (r * K) * V = (r * r * V) * (K * K) := by grind
  rw [Nat.mod_mul_mod] at h
  rw [e, Nat.mul_mod, hK, h, neg_mod (Nat.mod_lt _ P_pos), neg_neg hU]
theorem rN_sq {U V : Nat} (hU : U < P) (h : bN U V = true) : rN U V * rN U V % P * V % P = U := by
  unfold bN at h
  unfold rN
  by_cases ha : isN (r0N U V) V = U
  · rw [if_pos ha, fN_sq (r0_lt U V)]
    exact ha
  · have hb : isN (r0N U V) V = (P - U) % P := by simpa [ha] using h
    rw [if_neg ha, if_pos hb, fN_sq (Nat.mod_lt _ P_pos)]
    exact turn_sq KK_sq hU hb
theorem root_ok {A V : Nat} (hA : A < P) (hV : V < P) : bN (A * A % P * V % P) V = true := by
  unfold bN
  rcases Nat.eq_zero_or_pos A with h0 | h0
  · subst h0
    have e : (0 * 0 % P * V % P) = 0 := by simp
    rw [e]
    have h0 : r0N 0 V = 0 := by unfold r0N; rw [Nat.zero_mul, Nat.zero_mod, Nat.zero_mul, Nat.zero_mod]
    have : isN (r0N 0 V) V = 0 := by rw [h0]; unfold isN; rw [Nat.zero_mul, Nat.zero_mod, Nat.zero_mul, Nat.zero_mod]
    simp [this]
  · rcases Nat.eq_zero_or_pos V with h1 | h1
    · subst h1
      have : isN (r0N (A * A % P * 0 % P) 0) 0 = 0 := by unfold isN; rw [Nat.mul_zero, Nat.zero_mod]
      rw [this]
      simp
    · rcases is_cases hA hV (by omega) (by omega) with h | h
      · rw [h]; simp
      · rw [h]; simp
theorem sqd {A d V : Nat} (h : (A + d) * (A + d) * V % P = A * A * V % P) : P ∣ d * (A + A + d) * V := by
  have e : (A + d) * (A + d) * V = A * A * V + d * (A + A + d) * V := by grind
  rw [e] at h
  have h1 := Nat.sub_mod_eq_zero_of_mod_eq h
  rw [Nat.add_sub_cancel_left] at h1
  exact Nat.dvd_of_mod_eq_zero h1
theorem pm_up {A d V : Nat} (hr : A + d < P) (hV : V < P) (hV0 : V ≠ 0) (h : (A + d) * (A + d) * V % P = A * A * V % P) : d = 0 ∨ A + d = (P - A) % P := by
  rcases Nt.Pr.dvd_mul prP (sqd h) with hd | hd
  · rcases Nt.Pr.dvd_mul prP hd with hd | hd
    · left
      rcases Nat.eq_zero_or_pos d with h0 | h0
      · exact h0
      · exact absurd (Nat.le_of_dvd h0 hd) (by omega)
    · rcases Nat.eq_zero_or_pos d with h0 | h0
      · exact .inl h0
      · right
        obtain ⟨q, hq⟩ := hd
        have hq1 : q = 1 := by
          rcases Nat.lt_or_ge q 1 with h1 | h1
          · have : q = 0 := by omega
            subst this
            simp at hq
            omega
          · rcases Nat.lt_or_ge q 2 with h2 | h2
            · omega
            · have := Nat.mul_le_mul_left P h2
              omega
        subst hq1
        rw [Nat.mul_one] at hq
        have hA : A ≠ 0 := by omega
        rw [Nat.mod_eq_of_lt (by omega)]
        omega
  · exact absurd hd (not_dvd hV hV0)
theorem neg_swap {r A : Nat} (hr : r < P) (h : A = (P - r) % P) : r = (P - A) % P := by
  rw [h, neg_neg hr]
theorem root_pm {r A V : Nat} (hr : r < P) (hA : A < P) (hV : V < P) (hV0 : V ≠ 0) (h : r * r % P * V % P = A * A % P * V % P) : r = A ∨ r = (P - A) % P := by
  rw [Nat.mod_mul_mod, Nat.mod_mul_mod] at h
  rcases Nat.le_total A r with hle | hle
  · obtain ⟨d, rfl⟩ : ∃ d, r = A + d := ⟨r - A, by omega⟩
    rcases pm_up hr hV hV0 h with h1 | h1
    · left; omega
    · right; exact h1
  · obtain ⟨d, rfl⟩ : ∃ d, A = r + d := ⟨A - r, by omega⟩
    rcases pm_up hA hV hV0 h.symm with h1 | h1
    · left; omega
    · right; exact neg_swap hr h1
theorem mul_ne {A B : Nat} (hA : A < P) (hB : B < P) (h : A ≠ 0) (h2 : B ≠ 0) : A * B % P ≠ 0 := fun hh => by
  rcases Nt.Pr.dvd_mul prP (Nat.dvd_of_mod_eq_zero hh) with hd | hd
  · exact not_dvd hA h hd
  · exact not_dvd hB h2 hd
theorem bN_hf {A : Nat} (hA : A < P) (h0 : A ≠ 0) : bN A 1 = decide (A ^ hf % P = 1) := by
  have hq : A ^ qr % P * (A ^ qr % P) % P = A ^ hf % P := by rw [← Nat.mul_mod, ← Nat.pow_add, qr_two]
  have hi : isN (r0N A 1) 1 = A * (A ^ qr % P) % P := by rw [is_eq, Nat.one_pow, Nat.mul_one, Nat.mul_mod_mod]
  have hlt : A ^ qr % P < P := Nat.mod_lt _ P_pos
  unfold bN
  rw [hi]
  generalize A ^ qr % P = q at hq hi hlt
  rcases pow_hf hA h0 with h1 | h1
  · rw [h1] at hq ⊢
    rcases sq_one hlt hq with h2 | h2
    · subst h2
      rw [Nat.mul_one, Nat.mod_eq_of_lt hA]; simp
    · subst h2
      rw [neg_mod hA]; simp
  · rw [h1] at hq ⊢
    have hP2 : P - 1 ≠ 1 := by unfold P; decide
    rw [decide_eq_false hP2]
    have key : ∀ z, z < P → z * z % P = A * A % P → A * q % P ≠ z := fun z hz hzz he => by
      have h3 : A * q % P * (A * q % P) % P = A * A % P := by rw [he, hzz]
      rw [← Nat.mul_mod, show A * q * (A * q) = A * A * (q * q) by grind, Nat.mul_mod, hq, neg_mod (Nat.mod_lt _ P_pos)] at h3
      have h4 := mul_ne hA hA h0 h0
      have h5 : A * A % P < P := Nat.mod_lt _ P_pos
      rw [Nat.mod_eq_of_lt (by omega)] at h3
      have := P_odd
      omega
    rw [decide_eq_false (key A hA rfl), decide_eq_false (key _ (Nat.mod_lt _ P_pos) (neg_sq hA))]
    rfl
theorem one_two {A : Nat} (hA : A < P) (h0 : A ≠ 0) : bN ((A + A) % P) 1 = !bN A 1 := by
  have e : (A + A) % P = 2 * A % P := by rw [Nat.two_mul]
  have hz : (A + A) % P ≠ 0 := fun h => by
    rw [e] at h
    rcases Nt.Pr.dvd_mul prP (Nat.dvd_of_mod_eq_zero h) with hd | hd
    · exact not_dvd (by unfold P; decide) (by decide) hd
    · exact not_dvd hA h0 hd
  rw [bN_hf (Nat.mod_lt _ P_pos) hz, bN_hf hA h0, e, ← Nat.pow_mod, dbl_hf, two_hf]
  have hP2 : P - 1 ≠ 1 := by unfold P; decide
  rcases pow_hf hA h0 with h1 | h1
  · rw [h1, Nat.mul_one, Nat.mod_eq_of_lt (by have := P_pos; omega)]
    simp [hP2]
  · rw [h1]
    have : (P - 1) * (P - 1) % P = 1 := by unfold P; decide
    rw [this]
    simp [hP2]
end Fe
