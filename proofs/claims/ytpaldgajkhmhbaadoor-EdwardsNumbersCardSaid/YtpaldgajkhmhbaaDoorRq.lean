/- Squares modulo p. Plain. -/
import Derived.Test.YtpaldgajkhmhbaaDoorRp
namespace Fe
open Go.Proofs.YtpaldgajkhmhbaaDoor
/-- half of p - 1, a quarter -/
def hf : Nat := (P - 1) / 2
def qr : Nat := (P - 1) / 4
theorem hf_two : hf + hf = P - 1 := by unfold hf P; decide
theorem qr_two : qr + qr = hf := by unfold qr hf P; decide
theorem ex_qr : ex 253 5 = qr := by unfold ex qr P; decide
theorem ex_8 : ex 252 3 + ex 252 3 + 1 = qr := by unfold ex qr P; decide
theorem KK_sq : KK 2 * KK 2 % P = P - 1 := by
  rw [K2F_eq]
  decide +kernel
theorem v3_eq (V : Nat) : v3N V = V ^ 3 % P := by
  unfold v3N
  rw [Nat.mod_mul_mod]
  congr 1
  grind
theorem t_eq (U V : Nat) : U * (v3N V * v3N V % P * V % P) % P = U * V ^ 7 % P := by
  rw [v3_eq, ← Nat.mul_mod, Nat.mod_mul_mod, Nat.mul_mod_mod]
  congr 1
  grind
theorem r0_eq (U V : Nat) : r0N U V = U * V ^ 3 * (U * V ^ 7) ^ ex 252 3 % P := by
  unfold r0N
  rw [t_eq, v3_eq, Nat.mul_mod_mod U (V ^ 3) P, ← Nat.pow_mod, ← Nat.mul_mod]
theorem is_eq (U V : Nat) : isN (r0N U V) V = U * (U * V ^ 7) ^ qr % P := by
  unfold isN
  rw [r0_eq, ← Nat.mul_mod, Nat.mod_mul_mod, ← ex_8]
  generalize ex 252 3 = e
  congr 1
  have h : (U * V ^ 7) ^ (e + e + 1) = (U * V ^ 7) ^ e * (U * V ^ 7) ^ e * (U * V ^ 7) := (Nat.pow_succ (n := U * V ^ 7) (m := e + e)).trans (by rw [Nat.pow_add (U * V ^ 7) e e])
  rw [h]
  generalize (U * V ^ 7) ^ e = Y
  grind
/-- a root of a square times V: the first road or the second -/
theorem neg_mod {n : Nat} (h : n < P) : n * (P - 1) % P = (P - n) % P := by
  rcases Nat.eq_zero_or_pos n with h0 | h0
  · subst h0; simp
  have e : n * (P - 1) = (P - n) + P * (n - 1) := by
    obtain ⟨m, rfl⟩ : ∃ m, n = m + 1 := ⟨n - 1, by omega⟩
    obtain ⟨q, hq⟩ : ∃ q, P = m + 1 + q := ⟨P - (m + 1), by omega⟩
    rw [hq, show m + 1 + q - 1 = m + q by omega, show m + 1 + q - (m + 1) = q by omega, show m + 1 - 1 = m by omega]
    grind
  rw [e, Nat.add_mul_mod_self_left]
theorem fN_lt {r : Nat} (h : r < P) : fN r < P := by
  unfold fN
  split
  · exact Nat.mod_lt _ (by omega)
  exact h
theorem fN_even {r : Nat} (h : r < P) : fN r % 2 = 0 := by
  unfold fN
  split
  · rename_i ho
    have hP : P % 2 = 1 := by unfold P; decide
    have e : (P - r) % P = P - r := Nat.mod_eq_of_lt (by omega)
    rw [e]
    omega
  omega
theorem neg_sq {r : Nat} (h : r < P) : (P - r) % P * ((P - r) % P) % P = r * r % P := by
  rw [← Nat.mul_mod]
  obtain ⟨q, hq⟩ : ∃ q, P = r + q := ⟨P - r, by omega⟩
  have e : (P - r) * (P - r) + P * (2 * r) = r * r + P * P := by
    rw [hq, show r + q - r = q by omega]
    grind
  have e2 := congrArg (· % P) e
  simp only [Nat.add_mul_mod_self_left] at e2
  exact e2
theorem fN_sq {r : Nat} (h : r < P) : fN r * fN r % P = r * r % P := by
  unfold fN
  split
  · exact neg_sq h
  rfl
theorem KK_hf (b : Nat) : KK b * KK b % P = b ^ hf % P := by
  rw [← KK_eq, ← Nat.mul_mod, ← Nat.pow_add, ex_qr, qr_two]
theorem two_hf : 2 ^ hf % P = P - 1 := (KK_hf 2).symm.trans KK_sq
end Fe
