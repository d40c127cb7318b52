/- Powers of elements: the bits of 2^n - L. Plain. -/
import Derived.Test.YtigcobcpfmnhoaaDoorFe
namespace Fe
/-- bit i of 2^n - L, L from 1 to 63 -/
def bitOf (L i : Nat) : Bool := Nat.ble 6 i || Nat.beq ((64 - L) / 2 ^ i % 2) 1
theorem bitOf_hi (L i : Nat) (h : 6 ≤ i) : bitOf L i = true := by
  unfold bitOf
  rw [Nat.ble_eq_true_of_le h, Bool.true_or]
theorem bitOf_lo (L i : Nat) (_h1 : 1 ≤ L) (_h2 : L ≤ 31) (h : i < 6) : bitOf L i = Nat.beq ((64 - L) / 2 ^ i % 2) 1 := by
  unfold bitOf
  have : Nat.ble 6 i = false := by
    rw [← Bool.not_eq_true, Nat.ble_eq]; omega
  rw [this, Bool.false_or]
/-- the power after k rounds -/
def pw (a : E) (n L : Nat) : Nat → E
  | 0 => ⟨1, 0, 0, 0, 0⟩
  | k + 1 => if bitOf L (n - 1 - k) = true then mulE (mulE (pw a n L k) (pw a n L k)) a else mulE (pw a n L k) (pw a n L k)
theorem pw_w (a : E) (n L : Nat) : ∀ k, W (pw a n L k)
  | 0 => by simp only [pw, W]; omega
  | k + 1 => by
    simp only [pw]
    split <;> exact mulE_w _ _
theorem pw_r {a : E} (ha : R a) (n L : Nat) : ∀ k, R (pw a n L k)
  | 0 => by simp only [pw, R]; omega
  | k + 1 => by
    have ih := pw_r ha n L k
    simp only [pw]
    split
    · exact (mulE_r (mulE_r ih ih).1 ha).1
    exact (mulE_r ih ih).1

/-- the value modulo p -/
def nv (a : E) : Nat := (val a % p).toNat
theorem p_pos : 0 < p := by decide
def P : Nat := 57896044618658097711785492504343953926634992332820282019728792003956564819949
theorem p_eq : p = (P : Int) := rfl
theorem nv_lt (a : E) : nv a < P := by
  have h1 := Int.emod_nonneg (val a) (show p ≠ 0 by decide)
  have h2 := Int.emod_lt_of_pos (val a) p_pos
  have h3 := p_eq
  unfold nv
  omega
theorem nv_int (a : E) : (nv a : Int) = val a % p := Int.toNat_of_nonneg (Int.emod_nonneg _ (by decide))
/-- a number below p, and of that value -/
theorem nv_of {a : E} {x : Int} {n : Nat} (h : ∃ k, val a = x + p * k) (hx : x % p = (n % P : Nat)) : nv a = n % P := by
  obtain ⟨k, hk⟩ := h
  have h1 := nv_int a
  rw [hk, Int.add_mul_emod_self_left, hx] at h1
  omega
theorem nv_add {a b : E} (ha : R a) (hb : R b) : nv (addE a b) = (nv a + nv b) % P := by
  refine nv_of (addE_r ha hb).2 ?_
  rw [Int.add_emod, ← nv_int, ← nv_int, p_eq]
  rfl
theorem nv_mul {a b : E} (ha : R a) (hb : R b) : nv (mulE a b) = nv a * nv b % P := by
  refine nv_of (mulE_r ha hb).2 ?_
  rw [Int.mul_emod, ← nv_int, ← nv_int, p_eq]
  rfl
theorem nv_sub {a b : E} (ha : R a) (hb : R b) : nv (subE a b) = (nv a + (P - nv b)) % P := by
  refine nv_of (subE_r ha hb).2 ?_
  have h1 := nv_lt b
  have e : ((nv a + (P - nv b)) % P : Nat) = (((nv a : Int) - (nv b : Int)) % (P : Int)) := by
    have : ((nv a + (P - nv b) : Nat) : Int) = (nv a : Int) - (nv b : Int) + P := by omega
    rw [Int.natCast_emod, this, Int.add_emod_right]
  rw [e, Int.sub_emod, ← nv_int, ← nv_int, p_eq]

/-- the bits are those of 2^n - L -/
def chk (n L : Nat) : Bool := (List.range n).all fun k => Nat.beq ((2 ^ n - L) / 2 ^ (n - 1 - k) % 2) (if bitOf L (n - 1 - k) then 1 else 0)
theorem nv_pw {a : E} (ha : R a) {n L : Nat} (hc : chk n L = true) (hL : L ≤ 2 ^ n) (h1 : 1 ≤ L) : ∀ k, k ≤ n → nv (pw a n L k) = nv a ^ ((2 ^ n - L) / 2 ^ (n - k)) % P
  | 0, _ => by
    have e : (2 ^ n - L) / 2 ^ (n - 0) = 0 := Nat.div_eq_of_lt (by rw [Nat.sub_zero]; omega)
    rw [e, Nat.pow_zero]
    show nv ⟨1, 0, 0, 0, 0⟩ = 1 % P
    decide +kernel
  | k + 1, hk => by
    have ih := nv_pw ha hc hL h1 k (by omega)
    have hr := pw_r ha n L k
    have hb := List.all_eq_true.1 hc k (List.mem_range.2 (by omega))
    have hb' := Nat.eq_of_beq_eq_true hb
    have e1 : n - k = (n - (k + 1)) + 1 := by omega
    have e2 : n - 1 - k = n - (k + 1) := by omega
    rw [e2] at hb'
    rw [e1, Nat.pow_succ, ← Nat.div_div_eq_div_mul] at ih
    generalize (2 ^ n - L) / 2 ^ (n - (k + 1)) = x at *
    have hx := Nat.div_add_mod x 2
    simp only [pw, e2]
    by_cases hbit : bitOf L (n - (k + 1)) = true
    · rw [if_pos hbit] at hb' ⊢
      rw [nv_mul (mulE_r hr hr).1 ha, nv_mul hr hr, ih, ← Nat.mul_mod, Nat.mod_mul_mod, ← Nat.pow_add, ← Nat.pow_succ]
      congr 2
      omega
    rw [if_neg hbit] at hb' ⊢
    rw [nv_mul hr hr, ih, ← Nat.mul_mod, ← Nat.pow_add]
    congr 2
    omega
theorem chk252 : chk 252 3 = true := by decide +kernel
theorem chk253 : chk 253 5 = true := by decide +kernel
end Fe
