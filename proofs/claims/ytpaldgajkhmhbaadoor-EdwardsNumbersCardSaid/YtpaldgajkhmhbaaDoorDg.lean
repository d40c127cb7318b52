/- Numbers by sixteen parts of 16 bits. Plain. -/
import Derived.Test.YtpaldgajkhmhbaaDoorFp0
namespace Dg
open Fe

/-- the value of the first k parts -/
def sm (f : Nat → Int) : Nat → Int
  | 0 => 0
  | k + 1 => sm f k + f k * 65536 ^ k
def up (f : Nat → Int) (i : Nat) (v : Int) : Nat → Int := fun j => if j = i then v else f j
def dg (n : Nat) (i : Nat) : Int := ((n / 65536 ^ i % 65536 : Nat) : Int)
/-- each of the first k parts is a digit -/
def Di (f : Nat → Int) (k : Nat) : Prop := ∀ j, j < k → 0 ≤ f j ∧ f j < 65536

theorem up_same (f : Nat → Int) (i : Nat) (v : Int) : up f i v i = v := by simp [up]
theorem up_ne (f : Nat → Int) {i j : Nat} (v : Int) (h : j ≠ i) : up f i v j = f j := by simp [up, h]
theorem X_pos (k : Nat) : (0 : Int) < 65536 ^ k := Int.pow_pos (by decide)
theorem sm_congr {f g : Nat → Int} : ∀ k, (∀ j, j < k → f j = g j) → sm f k = sm g k
  | 0, _ => rfl
  | k + 1, h => by
    simp only [sm]
    rw [sm_congr k fun j hj => h j (by omega), h k (by omega)]
theorem sm_up (f : Nat → Int) (i : Nat) (v : Int) : ∀ k, sm (up f i v) k = sm f k + (if i < k then (v - f i) * 65536 ^ i else 0)
  | 0 => by simp [sm]
  | k + 1 => by
    simp only [sm]
    rw [sm_up f i v k]
    by_cases h : k = i
    · subst h
      rw [up_same, if_neg (by omega), if_pos (by omega), Int.sub_mul]
      omega
    rw [up_ne f v h]
    by_cases h2 : i < k
    · rw [if_pos h2, if_pos (by omega)]; omega
    rw [if_neg h2, if_neg (by omega)]; omega
theorem Di.mono {f : Nat → Int} {k n : Nat} (h : Di f n) (hk : k ≤ n) : Di f k := fun j hj => h j (by omega)
theorem sm_lt {f : Nat → Int} : ∀ k, Di f k → 0 ≤ sm f k ∧ sm f k < 65536 ^ k
  | 0, _ => by simp [sm]
  | k + 1, h => by
    have ih := sm_lt k (h.mono (by omega))
    have h1 := h k (by omega)
    have hX := X_pos k
    simp only [sm]
    rw [Int.pow_succ]
    have h2 : 0 ≤ f k * 65536 ^ k := Int.mul_nonneg h1.1 (by omega)
    have h3 : f k * 65536 ^ k ≤ 65535 * 65536 ^ k := Int.mul_le_mul_of_nonneg_right (by omega) (by omega)
    omega
theorem two_parts {a b c d X : Int} (ha : 0 ≤ a ∧ a < X) (hc : 0 ≤ c ∧ c < X) (h : a + b * X = c + d * X) : a = c ∧ b = d := by
  have h1 : (a + b * X) / X = b := by
    rw [Int.add_mul_ediv_right _ _ (by omega), Int.ediv_eq_zero_of_lt ha.1 ha.2, Int.zero_add]
  have h2 : (c + d * X) / X = d := by
    rw [Int.add_mul_ediv_right _ _ (by omega), Int.ediv_eq_zero_of_lt hc.1 hc.2, Int.zero_add]
  have hb : b = d := by rw [← h1, h, h2]
  subst hb
  exact ⟨by omega, rfl⟩
theorem sm_inj {f g : Nat → Int} : ∀ k, Di f k → Di g k → sm f k = sm g k → ∀ j, j < k → f j = g j
  | 0, _, _, _, j, hj => absurd hj (by omega)
  | k + 1, hf, hg, h, j, hj => by
    have h1 := sm_lt k (hf.mono (by omega))
    have h2 := sm_lt k (hg.mono (by omega))
    obtain ⟨h3, h4⟩ := two_parts h1 h2 h
    by_cases e : j = k
    · rw [e]; exact h4
    exact sm_inj k (hf.mono (by omega)) (hg.mono (by omega)) h3 j (by omega)
theorem dg_lt (n i : Nat) : 0 ≤ dg n i ∧ dg n i < 65536 := by unfold dg; omega
theorem dg_di (n k : Nat) : Di (dg n) k := fun j _ => dg_lt n j
theorem sm_dg (n : Nat) : ∀ k, sm (dg n) k = ((n % 65536 ^ k : Nat) : Int)
  | 0 => by simp [sm, Nat.mod_one]
  | k + 1 => by
    simp only [sm]
    rw [sm_dg n k, Nat.mod_pow_succ]
    unfold dg
    rw [Int.natCast_add, Int.natCast_mul, Int.natCast_pow, Int.mul_comm]
    rfl
def M : Int := 115792089237316195423570985008687907853269984665640564039457584007913129639936
theorem M_eq : (65536 : Int) ^ 16 = M := by unfold M; decide
theorem M_nat : 65536 ^ 16 = 115792089237316195423570985008687907853269984665640564039457584007913129639936 := by decide
theorem sm16 {n : Nat} (h : n < 2 ^ 256) : sm (dg n) 16 = (n : Int) := by
  rw [sm_dg, Nat.mod_eq_of_lt (by rw [M_nat]; simpa using h)]
theorem dig_of {f : Nat → Int} {n : Nat} (hf : Di f 16) (h : sm f 16 = (n : Int)) : ∀ j, j < 16 → f j = dg n j := by
  have h1 := sm_lt 16 hf
  rw [M_eq] at h1
  unfold M at h1
  exact sm_inj 16 hf (dg_di n 16) (by rw [h, sm16 (by simp; omega)])

/-- one step of carrying -/
def cs (t : Nat → Int) (i : Nat) : Nat → Int := if i < 15 then up (up t i (t i % 65536)) (i + 1) (t (i + 1) + t i / 65536) else up (up t i (t i % 65536)) 0 (t 0 + 38 * (t i / 65536))
def ps (t : Nat → Int) : Nat → (Nat → Int)
  | 0 => t
  | k + 1 => cs (ps t k) k
def rs (t : Nat → Int) : Nat → (Nat → Int)
  | 0 => t
  | k + 1 => ps (rs t k) 16
def Bd (t : Nat → Int) : Prop := ∀ j, j < 16 → 0 ≤ t j ∧ t j < 1152921504606846976
def Pi (u : Nat → Int) (k : Nat) : Prop := Di u k ∧ (0 ≤ u k ∧ u k < 1152956688978935808) ∧ ∀ j, k < j → j < 16 → 0 ≤ u j ∧ u j < 1152921504606846976
theorem ps_pi {t : Nat → Int} (h : Bd t) : ∀ k, k ≤ 15 → Pi (ps t k) k
  | 0, _ => ⟨fun j hj => absurd hj (by omega), by have := h 0 (by omega); simp only [ps]; omega, fun j _ hj => h j hj⟩
  | k + 1, hk => by
    obtain ⟨h1, h2, h3⟩ := ps_pi h k (by omega)
    simp only [ps]
    generalize ps t k = u at *
    unfold cs
    rw [if_pos (by omega)]
    have h4 := h3 (k + 1) (by omega) (by omega)
    refine ⟨fun j hj => ?_, ?_, fun j hj hj2 => ?_⟩
    · rw [up_ne _ _ (by omega)]
      by_cases e : j = k
      · rw [e, up_same]; omega
      rw [up_ne _ _ e]; exact h1 j (by omega)
    · rw [up_same]; omega
    rw [up_ne _ _ (by omega), up_ne _ _ (by omega)]
    exact h3 j (by omega) hj2
theorem ps_sm {t : Nat → Int} : ∀ k, k ≤ 15 → sm (ps t k) 16 = sm t 16
  | 0, _ => rfl
  | k + 1, hk => by
    have ih := ps_sm (t := t) k (by omega)
    simp only [ps]
    generalize ps t k = u at *
    unfold cs
    rw [if_pos (by omega), sm_up, sm_up, if_pos (by omega), if_pos (by omega), up_ne _ _ (by omega), ih]
    have e : u (k + 1) + u k / 65536 - u (k + 1) = u k / 65536 := by omega
    rw [e, Int.pow_succ]
    have e2 : u k % 65536 - u k = -(65536 * (u k / 65536)) := by omega
    rw [e2]
    generalize (65536 : Int) ^ k = X
    grind
theorem pass_spec {t : Nat → Int} (h : Bd t) : (∀ j, 1 ≤ j → j < 16 → 0 ≤ ps t 16 j ∧ ps t 16 j < 65536) ∧ (∃ d, 0 ≤ d ∧ d < 65536 ∧ ps t 16 0 = d + 38 * (sm t 16 / M)) ∧ (0 ≤ sm t 16 / M ∧ sm t 16 / M < 35184372088832 * 2) ∧ sm (ps t 16) 16 = sm t 16 % M + 38 * (sm t 16 / M) := by
  obtain ⟨h1, h2, -⟩ := ps_pi h 15 (Nat.le_refl _)
  have hs := ps_sm (t := t) 15 (Nat.le_refl _)
  have e0 : ps t 16 = cs (ps t 15) 15 := rfl
  rw [e0]
  generalize ps t 15 = u at *
  have hl := sm_lt 15 h1
  have hc : sm t 16 / M = u 15 / 65536 := by
    rw [← hs, ← M_eq]
    show (sm u 15 + u 15 * 65536 ^ 15) / 65536 ^ (15 + 1) = _
    have e3 : (65536 : Int) ^ (15 + 1) = 65536 ^ 15 * 65536 := Int.pow_succ ..
    have hX := X_pos 15
    rw [e3]
    generalize (65536 : Int) ^ 15 = X at *
    rw [← Int.ediv_ediv_of_nonneg (by omega), Int.add_mul_ediv_right _ _ (by omega), Int.ediv_eq_zero_of_lt hl.1 hl.2, Int.zero_add]
  unfold cs
  rw [if_neg (by omega), hc]
  refine ⟨fun j hj hj2 => ?_, ⟨u 0, (h1 0 (by omega)).1, (h1 0 (by omega)).2, by rw [up_same]⟩, by omega, ?_⟩
  · rw [up_ne _ _ (by omega)]
    by_cases e : j = 15
    · rw [e, up_same]; omega
    rw [up_ne _ _ e]; exact h1 j (by omega)
  rw [sm_up, sm_up, if_pos (by omega), if_pos (by omega), up_ne _ _ (by omega), hs]
  have h6 : sm t 16 % M = sm t 16 - M * (u 15 / 65536) := by rw [Int.emod_def, hc]
  have e2 : u 15 % 65536 - u 15 = -(65536 * (u 15 / 65536)) := by omega
  rw [h6, e2, ← M_eq]
  generalize u 15 / 65536 = c
  have e3 : (65536 : Int) ^ 16 = 65536 ^ 15 * 65536 := Int.pow_succ ..
  rw [e3]
  generalize (65536 : Int) ^ 15 = X
  grind
theorem pass_bd {t : Nat → Int} (h : Bd t) : Bd (ps t 16) := fun j hj => by
  obtain ⟨h1, ⟨d, h2, h3, h4⟩, h5, -⟩ := pass_spec h
  by_cases e : j = 0
  · rw [e, h4]; omega
  have := h1 j (by omega) hj; omega
theorem rs_bd {t : Nat → Int} (h : Bd t) : ∀ k, Bd (rs t k)
  | 0 => h
  | k + 1 => pass_bd (rs_bd h k)
def gv (v : Int) : Int := v % M + 38 * (v / M)
theorem rs_sm {t : Nat → Int} (h : Bd t) (k : Nat) : sm (rs t (k + 1)) 16 = gv (sm (rs t k) 16) := (pass_spec (rs_bd h k)).2.2.2
theorem gv_mod (v : Int) : gv v % p = v % p := by
  have h := Int.emod_add_mul_ediv v M
  unfold gv
  have e : v % M + 38 * (v / M) = v + p * (-2 * (v / M)) := by
    have : M = 2 * p + 38 := by unfold M p; decide
    rw [this] at h ⊢
    generalize v / (2 * p + 38) = q at *
    grind
  rw [e, Int.add_mul_emod_self_left]
theorem rs_mod {t : Nat → Int} (h : Bd t) : ∀ k, sm (rs t k) 16 % p = sm t 16 % p
  | 0 => rfl
  | k + 1 => by rw [rs_sm h, gv_mod, rs_mod h k]
theorem rs_small {t : Nat → Int} (h : Bd t) : ∀ k, 2 ≤ k → 0 ≤ sm (rs t k) 16 ∧ sm (rs t k) 16 < M
  | 0, hk => absurd hk (by omega)
  | 1, hk => absurd hk (by omega)
  | 2, _ => by
    have h1 := rs_sm h 1
    have h0 := (pass_spec (rs_bd h 0)).2.2.1
    have h2 := rs_sm h 0
    rw [h1, h2]
    generalize sm (rs t 0) 16 = v at *
    unfold gv M at *
    omega
  | k + 3, _ => by
    have ih := rs_small h (k + 2) (by omega)
    rw [rs_sm h (k + 2)]
    generalize sm (rs t (k + 2)) 16 = v at *
    unfold gv M at *
    omega
theorem whole_spec {t : Nat → Int} (h : Bd t) : Di (rs t 6) 16 ∧ sm (rs t 6) 16 % p = sm t 16 % p := by
  refine ⟨fun j hj => ?_, rs_mod h 6⟩
  obtain ⟨h1, ⟨d, h2, h3, h4⟩, h5, -⟩ := pass_spec (rs_bd h 5)
  have hv := rs_small h 5 (by omega)
  have e : rs t 6 = ps (rs t 5) 16 := rfl
  rw [e]
  by_cases e : j = 0
  · rw [e, h4, Int.ediv_eq_zero_of_lt hv.1 hv.2]; omega
  exact h1 j (by omega) hj
theorem sm_less {f g : Nat → Int} {i : Nat} : ∀ n, Di f n → Di g n → i < n → (∀ j, i < j → j < n → f j = g j) → f i < g i → sm f n < sm g n
  | 0, _, _, h, _, _ => absurd h (by omega)
  | n + 1, hf, hg, hi, he, hl => by
    simp only [sm]
    by_cases e : i = n
    · subst e
      have h1 := sm_lt i (hf.mono (by omega))
      have h2 := sm_lt i (hg.mono (by omega))
      have h3 : f i * 65536 ^ i + 1 * 65536 ^ i ≤ g i * 65536 ^ i := by
        rw [← Int.add_mul]
        exact Int.mul_le_mul_of_nonneg_right (by omega) (Int.le_of_lt (X_pos i))
      omega
    have ih := sm_less n (hf.mono (by omega)) (hg.mono (by omega)) (by omega) (fun j h1 h2 => he j h1 (by omega)) hl
    rw [he n (by omega) (by omega)]
    omega
end Dg
