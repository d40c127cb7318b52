/- Plain: what Get and Read read of bytes agrees; what is put is got. -/
import Derived.Test.YtpaldgajkhmhbaaDoorBy
import Derived.Test.YtpaldgajkhmhbaaDoorGr
import Derived.Test.YtpaldgajkhmhbaaDoorN13
namespace Fe
open Go.Proofs.YtpaldgajkhmhbaaDoor
/-- the sum of the bits -/
def sb (b : Nat → Int) : Nat → Int
  | 0 => 0
  | k + 1 => sb b k + bbit b k * 2 ^ k
def sy (b : Nat → Int) : Nat → Int
  | 0 => 0
  | k + 1 => sy b k + b k * 256 ^ k
theorem val_sb (b : Nat → Int) : ∀ k, k ≤ 255 → val (getE b k) = sb b k
  | 0, _ => rfl
  | k + 1, hk => by
    have ih := val_sb b k (by omega)
    simp only [sb]
    rw [← ih]
    have hi : k / 51 = 0 ∨ k / 51 = 1 ∨ k / 51 = 2 ∨ k / 51 = 3 ∨ k / 51 = 4 := by omega
    have hp : (2 : Int) ^ k = 2 ^ (51 * (k / 51)) * 2 ^ (k % 51) := by rw [← Int.pow_add]; congr 1; omega
    rw [hp]
    simp only [val, getE, gl]
    generalize (2 : Int) ^ (k % 51) = q
    generalize bbit b k = c
    rcases hi with e | e | e | e | e <;> rw [e] <;> simp <;> grind
theorem sb_sy {b : Nat → Int} (hr : ∀ j, 0 ≤ b j ∧ b j < 256) : ∀ j, sb b (8 * j) = sy b j
  | 0 => rfl
  | j + 1 => by
    have ih := sb_sy hr j
    have hp : ∀ t, (2 : Int) ^ (8 * j + t) = 256 ^ j * 2 ^ t := fun t => by
      rw [Int.pow_add, Int.pow_mul]
      rfl
    rw [show 8 * (j + 1) = 8 * j + 1 + 1 + 1 + 1 + 1 + 1 + 1 + 1 by omega]
    simp only [sb, sy]
    rw [ih, hp, hp, hp, hp, hp, hp, hp, show (2 : Int) ^ (8 * j) = 256 ^ j from by rw [Int.pow_mul]; rfl]
    have h := hr j
    simp only [bbit]
    rw [show (8 * j) / 8 = j by omega, show (8 * j + 1) / 8 = j by omega, show (8 * j + 2) / 8 = j by omega, show (8 * j + 3) / 8 = j by omega, show (8 * j + 4) / 8 = j by omega, show (8 * j + 5) / 8 = j by omega, show (8 * j + 6) / 8 = j by omega, show (8 * j + 7) / 8 = j by omega]
    rw [show (8 * j) % 8 = 0 by omega, show (8 * j + 1) % 8 = 1 by omega, show (8 * j + 2) % 8 = 2 by omega, show (8 * j + 3) % 8 = 3 by omega, show (8 * j + 4) % 8 = 4 by omega, show (8 * j + 5) % 8 = 5 by omega, show (8 * j + 6) % 8 = 6 by omega, show (8 * j + 7) % 8 = 7 by omega]
    have hb : b j = b j % 2 + b j / 2 % 2 * 2 + b j / 4 % 2 * 4 + b j / 8 % 2 * 8 + b j / 16 % 2 * 16 + b j / 32 % 2 * 32 + b j / 64 % 2 * 64 + b j / 128 % 2 * 128 := by omega
    generalize (256 : Int) ^ j = X
    generalize sy b j = Y
    simp only [Int.reducePow, Int.pow_zero, Int.ediv_one, Int.pow_one]
    generalize b j % 2 = t0 at *
    generalize b j / 2 % 2 = t1 at *
    generalize b j / 4 % 2 = t2 at *
    generalize b j / 8 % 2 = t3 at *
    generalize b j / 16 % 2 = t4 at *
    generalize b j / 32 % 2 = t5 at *
    generalize b j / 64 % 2 = t6 at *
    generalize b j / 128 % 2 = t7 at *
    rw [hb]
    grind
theorem sm_sy (b : Nat → Int) : ∀ k, Dg.sm (Dg.bd b) k = sy b (2 * k)
  | 0 => rfl
  | k + 1 => by
    have ih := sm_sy b k
    rw [show 2 * (k + 1) = 2 * k + 1 + 1 by omega]
    simp only [Dg.sm, sy]
    rw [ih, Dg.bd, Int.pow_succ, show (256 : Int) ^ (2 * k) = 65536 ^ k from by rw [Int.pow_mul]; rfl]
    grind
theorem sy_nn {b : Nat → Int} (hr : ∀ j, 0 ≤ b j ∧ b j < 256) : ∀ k, 0 ≤ sy b k
  | 0 => Int.le_refl _
  | k + 1 => by
    have ih := sy_nn hr k
    have h := Int.mul_nonneg (hr k).1 (Int.le_of_lt (show (0 : Int) < 256 ^ k from Int.pow_pos (by decide)))
    simp only [sy]
    omega
theorem val_get {b : Nat → Int} (hr : ∀ j, 0 ≤ b j ∧ b j < 256) : val (getE b 255) = sy b 31 + b 31 % 128 * 256 ^ 31 := by
  have h7 : ∀ K, sb b (K + 7) = sb b K + bbit b K * 2 ^ K + bbit b (K + 1) * 2 ^ (K + 1) + bbit b (K + 2) * 2 ^ (K + 2) + bbit b (K + 3) * 2 ^ (K + 3) + bbit b (K + 4) * 2 ^ (K + 4) + bbit b (K + 5) * 2 ^ (K + 5) + bbit b (K + 6) * 2 ^ (K + 6) := fun K => rfl
  have e8 : sb b 248 = sy b 31 := sb_sy hr 31
  rw [val_sb b 255 (Nat.le_refl _), h7 248, e8]
  have hr31 := (hr 31).1
  simp only [bbit, Nat.reduceDiv, Nat.reduceMod, Nat.reduceAdd]
  generalize sy b 31 = Y
  generalize b 31 = y at *
  have hb : y % 128 = y % 2 + y / 2 % 2 * 2 + y / 4 % 2 * 4 + y / 8 % 2 * 8 + y / 16 % 2 * 16 + y / 32 % 2 * 32 + y / 64 % 2 * 64 := by omega
  rw [hb]
  simp only [Int.reducePow, Int.pow_zero, Int.ediv_one, Int.pow_one]
  omega
theorem sm_get (b : Nat → Int) : Dg.sm (Dg.bd b) 16 = sy b 31 + b 31 * 256 ^ 31 := by
  rw [sm_sy b 16]
  rfl
theorem ok_same {b : Nat → Int} (hr : ∀ j, 0 ≤ b j ∧ b j < 256) : getOk b = lessB (Dg.bd b) pd := by
  have hD := getE_d b 255
  have hv := val_get hr
  have hs := sm_get b
  have hn := sy_nn hr 31
  have h31 := hr 31
  have hc := canon_spec hD.r
  unfold lessB
  rw [pd_sm, hs]
  unfold getOk
  by_cases h : b 31 < 128
  · have e1 : (b 31 / 128 == 1) = false := by simp; omega
    rw [show b 31 % 128 = b 31 by omega] at hv
    rw [e1, ← hv, Bool.not_false, Bool.true_and]
    by_cases hlt : val (getE b 255) < p
    · rw [decide_eq_true hlt]
      refine eqE_iff.2 (D.inj hc.1 hD ?_)
      have hnn : 0 ≤ val (getE b 255) := by
        rw [hv]
        have := Int.mul_nonneg h31.1 (show (0 : Int) ≤ 256 ^ 31 by decide)
        omega
      rw [hc.2, Int.emod_eq_of_lt hnn hlt]
    rw [decide_eq_false hlt]
    cases hq : eqE (canon (getE b 255)) (getE b 255) with
    | false => rfl
    | true =>
      have h2 := hc.2
      rw [eqE_iff.1 hq] at h2
      exfalso
      apply hlt
      rw [h2]
      exact Int.emod_lt_of_pos _ (by decide)
  have e1 : (b 31 / 128 == 1) = true := by simp; omega
  rw [e1, Bool.not_true, Bool.false_and]
  refine (decide_eq_false ?_).symm
  have h3 : (128 : Int) * 256 ^ 31 ≤ b 31 * 256 ^ 31 := Int.mul_le_mul_of_nonneg_right (by omega) (by decide)
  have h4 : p ≤ (128 : Int) * 256 ^ 31 := by decide
  omega
theorem ok_get {b : Nat → Int} (hr : ∀ j, 0 ≤ b j ∧ b j < 256) (hok : getOk b = true) : b 31 < 128 ∧ canon (getE b 255) = getE b 255 ∧ ∃ n, nv (getE b 255) = n ∧ ∀ j, j < 16 → Dg.bd b j = Dg.dg n j := by
  have hD := getE_d b 255
  have h31 := hr 31
  have h2 := hok
  unfold getOk at h2
  simp only [Bool.and_eq_true, Bool.not_eq_true', beq_eq_false_iff_ne] at h2
  have hlt : b 31 < 128 := by omega
  have hv := val_get hr
  have hs := sm_get b
  rw [show b 31 % 128 = b 31 by omega, ← hs] at hv
  have hless := ok_same hr
  rw [hok] at hless
  have hl : Dg.sm (Dg.bd b) 16 < p := by
    have := of_decide_eq_true hless.symm
    rwa [pd_sm] at this
  have hnn := (Dg.sm_lt 16 (Dg.bd_di hr)).1
  refine ⟨hlt, eqE_iff.1 h2.2, _, rfl, Dg.dig_of (Dg.bd_di hr) ?_⟩
  rw [nv_int, hv, Int.emod_eq_of_lt hnn hl]
end Fe
