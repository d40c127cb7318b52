/- The ring's laws, as numbers modulo p; the contracts of FieldRing. Plain. -/
import Derived.Test.YtpaldgajkhmhbaaDoorBy
namespace Fe
open Go.Proofs.YtpaldgajkhmhbaaDoor
theorem P_one : 1 < P := by unfold P; decide
theorem prP : Nt.Pr P := Nt.prp
theorem n_add_comm {a b : E} (ha : R a) (hb : R b) : nv (addE a b) = nv (addE b a) := by rw [nv_add ha hb, nv_add hb ha, Nat.add_comm]
theorem n_mul_comm {a b : E} (ha : R a) (hb : R b) : nv (mulE a b) = nv (mulE b a) := by rw [nv_mul ha hb, nv_mul hb ha, Nat.mul_comm]
theorem n_add_assoc {a b c : E} (ha : R a) (hb : R b) (hc : R c) : nv (addE (addE a b) c) = nv (addE a (addE b c)) := by
  rw [nv_add (addE_r ha hb).1 hc, nv_add ha hb, nv_add ha (addE_r hb hc).1, nv_add hb hc, Nat.mod_add_mod, Nat.add_mod_mod, Nat.add_assoc]
theorem n_mul_assoc {a b c : E} (ha : R a) (hb : R b) (hc : R c) : nv (mulE (mulE a b) c) = nv (mulE a (mulE b c)) := by
  rw [nv_mul (mulE_r ha hb).1 hc, nv_mul ha hb, nv_mul ha (mulE_r hb hc).1, nv_mul hb hc, Nat.mod_mul_mod, Nat.mul_mod_mod, Nat.mul_assoc]
theorem n_dist {a b c : E} (ha : R a) (hb : R b) (hc : R c) : nv (mulE c (addE a b)) = nv (addE (mulE c a) (mulE c b)) := by
  rw [nv_mul hc (addE_r ha hb).1, nv_add ha hb, nv_add (mulE_r hc ha).1 (mulE_r hc hb).1, nv_mul hc ha, nv_mul hc hb, Nat.mul_mod_mod, Nat.mod_add_mod, Nat.add_mod_mod, Nat.mul_add]
theorem n_undo {a b : E} (ha : R a) (hb : R b) : nv (subE (addE a b) b) = nv a := by
  have h1 := nv_lt a
  have h2 := nv_lt b
  rw [nv_sub (addE_r ha hb).1 hb, nv_add ha hb, Nat.mod_add_mod, show nv a + nv b + (P - nv b) = nv a + P by omega, Nat.add_mod_right, Nat.mod_eq_of_lt h1]
theorem n_neg {a : E} (ha : R a) : nv (addE a (subE ⟨0, 0, 0, 0, 0⟩ a)) = 0 := by
  have h1 := nv_lt a
  rw [nv_add ha (subE_r R_zero ha).1, nv_neg ha, Nat.add_mod_mod, show nv a + (P - nv a) = P by omega, Nat.mod_self]
theorem n_one {a : E} (ha : R a) : nv (mulE a ⟨1, 0, 0, 0, 0⟩) = nv a := by
  rw [nv_mul ha R_one, nv_one, Nat.mul_one, Nat.mod_eq_of_lt (nv_lt a)]
theorem ex_P : ex 255 21 + 1 = P - 1 := by unfold ex P; decide
theorem not_dvd {n : Nat} (h : n < P) (h0 : n ≠ 0) : ¬ P ∣ n := fun hd => by
  have := Nat.le_of_dvd (by omega) hd
  omega
theorem n_inv {a : E} (ha : R a) : decide (nv (mulE a (pw a 255 21 255)) = nv ⟨1, 0, 0, 0, 0⟩) = !decide (nv a = 0) := by
  have hr := pw_r ha 255 21 255
  rw [nv_mul ha hr, nv_pwx ha chk255 (by decide) (by decide), nv_one, Nat.mul_mod_mod]
  by_cases h0 : nv a = 0
  · rw [h0, Nat.zero_mul, Nat.zero_mod]
    rfl
  · have h1 : nv a * nv a ^ ex 255 21 = nv a ^ (P - 1) := by rw [← ex_P, Nat.pow_succ, Nat.mul_comm]
    rw [h1, Nt.fermat prP (not_dvd (nv_lt a) h0)]
    simp [h0]
theorem n_zero {a b : E} (ha : R a) (hb : R b) : decide (nv (mulE a b) = 0) = (decide (nv a = 0) || decide (nv b = 0)) := by
  rw [nv_mul ha hb]
  by_cases h : nv a = 0
  · simp [h]
  · by_cases h2 : nv b = 0
    · simp [h2]
    · have : nv a * nv b % P ≠ 0 := fun hh => by
        rcases Nt.Pr.dvd_mul prP (Nat.dvd_of_mod_eq_zero hh) with hd | hd
        · exact not_dvd (nv_lt a) h hd
        · exact not_dvd (nv_lt b) h2 hd
      simp [h, h2, this]
theorem limb_r {x : E} (h : R x) (k : Nat) : limb x k < 4503599627370496 := by
  simp only [R] at h
  unfold limb
  split <;> omega
end Fe
