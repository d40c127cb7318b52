/- Bytes and digits: what is put is got again. Plain. -/
import Derived.Test.YtpaldgajkhmhbaaDoorRt
namespace Fe
open Go.Proofs.YtpaldgajkhmhbaaDoor
theorem pow_pos2 (t : Nat) : (0 : Int) < 2 ^ t := Int.pow_pos (by decide)
theorem bit_of_sum (X c : Int) (s t : Nat) (h : t < s) : (X + c * 2 ^ s) / 2 ^ t % 2 = X / 2 ^ t % 2 := by
  have e : (2 : Int) ^ s = 2 ^ (s - t - 1) * 2 * 2 ^ t := by
    rw [← Int.pow_succ, ← Int.pow_add]; congr 1; omega
  rw [e, ← Int.mul_assoc, Int.add_mul_ediv_right _ _ (Int.ne_of_gt (pow_pos2 t)), ← Int.mul_assoc]
  omega
theorem pb_bit (y : E) : ∀ k m, m < k → pb y k (m / 8) / 2 ^ (m % 8) % 2 = bit y m
  | 0, m, h => absurd h (by omega)
  | k + 1, m, h => by
    simp only [pb]
    by_cases e : m = k
    · subst e
      rw [if_pos rfl]
      have hl := pb_lt y m (m / 8)
      rw [show min 8 (m - 8 * (m / 8)) = m % 8 by omega] at hl
      have hb := bit_01 y m
      rw [Int.add_mul_ediv_right _ _ (Int.ne_of_gt (pow_pos2 _)), Int.ediv_eq_zero_of_lt hl.1 hl.2]
      omega
    have ih := pb_bit y k m (by omega)
    split
    · rename_i h2
      rw [bit_of_sum _ _ _ _ (by omega), ih]
    exact ih
theorem D.r {e : E} (h : D e) : R e := by simp only [D, R] at *; omega
theorem pb_range (y : E) (j : Nat) : 0 ≤ pb y 255 j ∧ pb y 255 j < 256 := by
  have h := pb_lt y 255 j
  have h2 : (2 : Int) ^ (min 8 (255 - 8 * j)) ≤ 2 ^ 8 := by
    have := Nat.pow_le_pow_right (n := 2) (by decide) (show min 8 (255 - 8 * j) ≤ 8 by omega)
    exact_mod_cast this
  omega
end Fe
