/- Bytes and digits: what is put is got again. Plain. -/
import Derived.Test.YtpaldgajkhmhbaaDoorRt
namespace Fe
open Go.Proofs.YtpaldgajkhmhbaaDoor
theorem pow_pos2 (t : Nat) : (0 : Int) < 2 ^ t := Int.pow_pos (by decide)
theorem bit_of_sum (X c : Int) (s t : Nat) (h : t < s) : (X + c * 2 ^ s) / 2 ^ t % 2 = X / 2 ^ t % 2 := by
  have e : (2 : Int) ^ s = 2 ^ (s - t - 1) * 2 * 2 ^ t := by
    rw [← Int.pow_succ, ← Int.pow_add]; congr 1; omega
  rw [e, ← Int.mul_assoc, Int.add_mul_ediv_right _ _ (Int.ne_of_gt (pow_pos2 t)), ← Int.mul_assoc]
  omega
theorem pb_bit (y : E) : ∀ k m, m < k → pb y k (m / 8) / 2 ^ (m % 8) % 2 = bit y m
  | 0, m, h => absurd h (by omega)
  | k + 1, m, h => by
    simp only [pb]
    by_cases e : m = k
    · subst e
      rw [if_pos rfl]
      have hl := pb_lt y m (m / 8)
      rw [show min 8 (m - 8 * (m / 8)) = m % 8 by omega] at hl
      have hb := bit_01 y m
      rw [Int.add_mul_ediv_right _ _ (Int.ne_of_gt (pow_pos2 _)), Int.ediv_eq_zero_of_lt hl.1 hl.2]
      omega
    · have ih := pb_bit y k m (by omega)
      split
      · rename_i h2
        rw [bit_of_sum _ _ _ _ (by omega), ih]
      · exact ih
theorem gl_mod {y : E} (b : Nat → Int) (hL : ∀ i, 0 ≤ limb y i) (hb : ∀ m, m < 255 → bbit b m = bit y m) : ∀ k i, k ≤ 255 → gl b k i = limb y i % 2 ^ (min 51 (k - 51 * i))
  | 0, i, _ => by simp [gl, Int.emod_one]
  | k + 1, i, hk => by
    have ih := gl_mod b hL hb k i (by omega)
    simp only [gl]
    split
    · rename_i h
      have e1 : min 51 (k - 51 * i) = k % 51 := by omega
      have e2 : min 51 (k + 1 - 51 * i) = k % 51 + 1 := by omega
      rw [ih, e1, e2, hb k (by omega), bit, ← h]
      have h2 := pow_pos2 (k % 51)
      have h3 : limb y i % 2 ^ (k % 51 + 1) = limb y i % 2 ^ (k % 51) + 2 ^ (k % 51) * (limb y i / 2 ^ (k % 51) % 2) := by
        rw [Int.pow_succ]
        generalize (2 : Int) ^ (k % 51) = q at *
        generalize limb y i = L
        have e3 : L / (q * 2) = L / q / 2 := Int.ediv_mul_of_nonneg (Int.le_of_lt h2)
        rw [Int.emod_def L (q * 2), e3, Int.emod_def L q, Int.emod_def (L / q) 2]
        grind
      rw [h3, Int.mul_comm]
    · rename_i h
      rw [ih]
      congr 2
      omega
theorem limb_d {y : E} (h : D y) (i : Nat) : 0 ≤ limb y i ∧ limb y i < 2251799813685248 := by
  simp only [D] at h
  unfold limb
  split <;> omega
theorem get_put {y : E} (h : D y) : getE (pb y 255) 255 = y := by
  have hg : ∀ i, i < 5 → gl (pb y 255) 255 i = limb y i := fun i hi => by
    rw [gl_mod (pb y 255) (fun i => (limb_d h i).1) (fun m hm => pb_bit y 255 m hm) 255 i (Nat.le_refl _)]
    have hl := limb_d h i
    have : min 51 (255 - 51 * i) = 51 := by omega
    rw [this]
    exact Int.emod_eq_of_lt hl.1 hl.2
  unfold getE
  rw [hg 0 (by decide), hg 1 (by decide), hg 2 (by decide), hg 3 (by decide), hg 4 (by decide)]
  rfl
theorem D.r {e : E} (h : D e) : R e := by simp only [D, R] at *; omega
theorem canon_canon {a : E} (h : R a) : canon (canon a) = canon a := by
  have hd := canon_d a
  refine D.inj (canon_d _) hd ?_
  rw [(canon_spec hd.r).2, (canon_spec h).2]
  exact Int.emod_emod_of_dvd _ (Int.dvd_refl _)
theorem pb_range (y : E) (j : Nat) : 0 ≤ pb y 255 j ∧ pb y 255 j < 256 := by
  have h := pb_lt y 255 j
  have h2 : (2 : Int) ^ (min 8 (255 - 8 * j)) ≤ 2 ^ 8 := by
    have := Nat.pow_le_pow_right (n := 2) (by decide) (show min 8 (255 - 8 * j) ≤ 8 by omega)
    exact_mod_cast this
  omega
theorem getOk_put {a : E} (h : R a) : getOk (pb (canon a) 255) = true := by
  have hl := pb_lt (canon a) 255 31
  have : (pb (canon a) 255 31 / 128 == 1) = false := by
    have h2 : (2 : Int) ^ (min 8 (255 - 8 * 31)) = 128 := by rw [show min 8 (255 - 8 * 31) = 7 from rfl]; rfl
    rw [h2] at hl
    rw [beq_eq_false_iff_ne]
    omega
  unfold getOk
  rw [this, get_put (canon_d a), canon_canon h, eqE_refl]
  rfl
theorem same_put {a b : E} : sameB 32 32 (pb (canon a) 255) (pb (canon b) 255) = eqE (canon a) (canon b) := by
  by_cases e : canon a = canon b
  · rw [e, eqE_refl]
    exact decide_eq_true ⟨rfl, fun _ _ => rfl⟩
  · have h1 : eqE (canon a) (canon b) = false := by
      rw [← Bool.not_eq_true, eqE_iff]; exact e
    rw [h1]
    refine decide_eq_false fun ⟨_, h⟩ => e ?_
    rw [← get_put (canon_d a), ← get_put (canon_d b)]
    have hh : ∀ k i, k ≤ 255 → gl (pb (canon a) 255) k i = gl (pb (canon b) 255) k i := by
      intro k
      induction k with
      | zero => intro i _; simp only [gl]
      | succ k ih =>
        intro i hk
        simp only [gl, bbit]
        rw [ih i (by omega), h (k / 8) (by omega)]
    unfold getE
    rw [hh 255 0 (Nat.le_refl _), hh 255 1 (Nat.le_refl _), hh 255 2 (Nat.le_refl _), hh 255 3 (Nat.le_refl _), hh 255 4 (Nat.le_refl _)]
theorem odd_dec {a : E} (h : R a) : decide ((canon a).a0 % 2 = 1) = decide (nv a % 2 = 1) := by
  have := odd_iff h
  by_cases hh : nv a % 2 = 1
  · rw [decide_eq_true hh, decide_eq_true (this.2 hh)]
  · rw [decide_eq_false hh, decide_eq_false fun h2 => hh (this.1 h2)]
/-- of an element and 0 less it one is odd, unless it is 0 -/
theorem odd_law {a : E} (h : R a) : (eqE (canon a) ⟨0, 0, 0, 0, 0⟩ == (decide ((canon a).a0 % 2 = 1) == decide ((canon (subE ⟨0, 0, 0, 0, 0⟩ a)).a0 % 2 = 1))) = true := by
  have hn := subE_r R_zero h
  rw [zero_dec h, odd_dec h, odd_dec hn.1, nv_neg h]
  have hlt := nv_lt a
  have hP : P = 57896044618658097711785492504343953926634992332820282019728792003956564819949 := rfl
  generalize nv a = n at *
  by_cases h0 : n = 0
  · subst h0
    have : (P - 0) % P = 0 := by rw [Nat.sub_zero, Nat.mod_self]
    rw [this]
    rfl
  · have : (P - n) % P = P - n := Nat.mod_eq_of_lt (by omega)
    rw [this, hP]
    rw [hP] at hlt
    have h2 : n % 2 = 0 ∨ n % 2 = 1 := by omega
    rcases h2 with h2 | h2
    · have h3 : (57896044618658097711785492504343953926634992332820282019728792003956564819949 - n) % 2 = 1 := by omega
      simp [h0, h2, h3]
    · have h3 : (57896044618658097711785492504343953926634992332820282019728792003956564819949 - n) % 2 = 0 := by omega
      simp [h0, h2, h3]
end Fe
