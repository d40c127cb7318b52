/- Plain: multiples of a point; the order of the base point. -/
import Derived.Test.YtigcobcpfmnhoaaDoorSf
import Derived.Test.YtigcobcpfmnhoaaDoorMb
import Derived.Test.YtigcobcpfmnhoaaDoorMo
import Derived.Test.YtigcobcpfmnhoaaDoorSa
namespace Fe
open Go.Proofs.YtigcobcpfmnhoaaDoor
abbrev Pt := Fin P × Fin P
def O2 : Pt := (0, 1)
theorem o2_on : On2 O2 := cv_zero
theorem gad_z (p : Pt) : gad p O2 = p := Prod.ext (ax_zero _ _) (ay_zero _ _)
theorem z_gad (p : Pt) : gad O2 p = p := by rw [gad_comm, gad_z]
/-- so many times a point -/
def nP : Nat → Pt → Pt
  | 0, _ => O2
  | n + 1, p => gad (nP n p) p
theorem nP_on {p : Pt} (h : On2 p) : ∀ n, On2 (nP n p)
  | 0 => o2_on
  | n + 1 => gad_on (nP_on h n) h
theorem nP_add {p : Pt} (h : On2 p) (m : Nat) : ∀ n, nP (m + n) p = gad (nP m p) (nP n p)
  | 0 => (gad_z _).symm
  | n + 1 => by
    show gad (nP (m + n) p) p = gad (nP m p) (gad (nP n p) p)
    rw [nP_add h m n, gad_assoc (nP_on h m) (nP_on h n) h]
theorem nP_zero : ∀ n, nP n O2 = O2
  | 0 => rfl
  | n + 1 => by rw [nP, nP_zero n, gad_z]
theorem nP_one (p : Pt) : nP 1 p = p := z_gad p
theorem nP_mul {p : Pt} (h : On2 p) (m : Nat) : ∀ n, nP (m * n) p = nP n (nP m p)
  | 0 => rfl
  | n + 1 => by rw [Nat.mul_succ, nP_add h, nP_mul h m n, nP]
theorem nP_gad {p q : Pt} (h : On2 p) (k : On2 q) (n : Nat) : nP n (gad p q) = gad (nP n p) (nP n q) := by
  induction n with
  | zero =>
    show O2 = gad O2 O2
    exact (gad_z O2).symm
  | succ n ih =>
    show gad (nP n (gad p q)) (gad p q) = gad (gad (nP n p) p) (gad (nP n q) q)
    rw [ih]
    exact gad_swap (nP_on h n) (nP_on k n) h k
def neg2 (p : Pt) : Pt := (-p.1, p.2)
theorem neg2_on {p : Pt} (h : On2 p) : On2 (neg2 p) := cv_neg h
theorem gad_neg {p : Pt} (h : On2 p) : gad p (neg2 p) = O2 := Prod.ext (ax_neg _ _) (ay_neg h)
theorem gad_cancel {p q r : Pt} (hp : On2 p) (hq : On2 q) (hr : On2 r) (h : gad p r = gad q r) : p = q := by
  have h1 := congrArg (fun s => gad s (neg2 r)) h
  simp only [gad_assoc hp hr (neg2_on hr), gad_assoc hq hr (neg2_on hr), gad_neg hr, gad_z] at h1
  exact h1
theorem nP_neg {p : Pt} (h : On2 p) (n : Nat) : nP n (neg2 p) = neg2 (nP n p) := by
  refine gad_cancel (nP_on (neg2_on h) n) (neg2_on (nP_on h n)) (nP_on h n) ?_
  rw [gad_comm (neg2 _), gad_neg (nP_on h n), ← nP_gad (neg2_on h) h, gad_comm, gad_neg h, nP_zero]
/-- bits' number -/
def bv (A : Nat → Bool) : Nat → Nat
  | 0 => 0
  | n + 1 => bv A n + 2 ^ n * (A n).toNat
theorem oneS_nP {x y : Fin P} (h : Cv x y) (A : Nat → Bool) (m : Nat) : ∀ k, k ≤ m → ∃ t, oneS x y A m k = nP t (x, y) ∧ t * 2 ^ (m - k) + bv A (m - k) = bv A m
  | 0, _ => ⟨0, rfl, by simp⟩
  | k + 1, hk => by
    obtain ⟨t, h1, h2⟩ := oneS_nP h A m k (by omega)
    have hP : On2 ((x, y) : Pt) := h
    refine ⟨2 * t + (A (m - 1 - k)).toNat, ?_, ?_⟩
    · show stepF x y (oneS x y A m k) (A (m - 1 - k)) = _
      rw [step_gad, h1, ← nP_add hP, ← Nat.two_mul]
      cases A (m - 1 - k)
      · rfl
      · rfl
    · rw [← h2, show m - k = (m - (k + 1)) + 1 by omega, bv, show m - 1 - k = m - (k + 1) by omega, Nat.pow_succ]
      generalize m - (k + 1) = d
      rw [Nat.add_mul, Nat.mul_comm (2 ^ d) ((A d).toNat), Nat.mul_comm 2 t, Nat.mul_assoc t 2, Nat.mul_comm 2 (2 ^ d)]
      omega
theorem oneS_val {x y : Fin P} (h : Cv x y) (A : Nat → Bool) (m : Nat) : oneS x y A m m = nP (bv A m) (x, y) := by
  obtain ⟨t, h1, h2⟩ := oneS_nP h A m m (Nat.le_refl _)
  rw [Nat.sub_self, Nat.pow_zero, Nat.mul_one, bv, Nat.add_zero] at h2
  rw [h1, h2]
theorem rest3_val (A : Nat → Bool) : ∀ n s, On2 s → rest3 A n s = gad (nP (2 ^ n) s) (nP (bv A n) (zf bX, zf bY))
  | 0, s, _ => by
    show s = gad (gad O2 s) O2
    rw [gad_z, z_gad]
  | n + 1, s, h => by
    have hB : On2 ((zf bX, zf bY) : Pt) := cv_base
    have hs : On2 (stepF (zf bX) (zf bY) s (A n)) := cv_step cv_base h _
    show rest3 A n (stepF (zf bX) (zf bY) s (A n)) = _
    rw [rest3_val A n _ hs, step_gad, bv, nP_add hB, Nat.pow_succ, Nat.mul_comm (2 ^ n) 2, nP_mul h]
    have h2 : nP 2 s = gad s s := by rw [show (2 : Nat) = 1 + 1 from rfl, nP_add h, nP_one]
    rw [h2]
    cases A n
    · simp only [Bool.toNat_false, Nat.mul_zero, nP, gad_z, if_false, Bool.false_eq_true]
    · simp only [Bool.toNat_true, Nat.mul_one, if_true]
      rw [nP_gad (gad_on h h) hB, gad_assoc (nP_on (gad_on h h) _) (nP_on hB _) (nP_on hB _), gad_comm (nP (2 ^ n) (zf bX, zf bY))]
theorem bv_of (e : Nat) : ∀ n, bv (fun k => Nat.beq (e / 2 ^ k % 2) 1) n = e % 2 ^ n
  | 0 => by simp [bv, Nat.mod_one]
  | n + 1 => by
    rw [bv, bv_of e n, Nat.pow_succ, Nat.mod_mul]
    congr 2
    have : e / 2 ^ n % 2 = 0 ∨ e / 2 ^ n % 2 = 1 := by omega
    rcases this with h | h <;> rw [h] <;> rfl
def Bp : Pt := (zf bX, zf bY)
theorem Bp_on : On2 Bp := cv_base
theorem ord_zero : nP ordN Bp = O2 := by
  have h := goB_sound ordN (fun k => Nat.beq (ordN / 2 ^ k % 2) 1) 256 (fun _ _ => rfl) 0 1 1 O2 ra_zero ord_go
  rw [rest3_val _ _ _ o2_on, nP_zero, z_gad, bv_of] at h
  have : ordN % 2 ^ 256 = ordN := by decide
  rw [this] at h
  exact h
theorem nP_mod (n : Nat) : nP (n % ordN) Bp = nP n Bp := by
  conv => rhs; rw [← Nat.div_add_mod n ordN]
  rw [nP_add Bp_on, nP_mul Bp_on, ord_zero, nP_zero, z_gad]
end Fe
namespace Sc
open Go.Proofs.YtigcobcpfmnhoaaDoor
theorem bits_byte : ∀ x : Fin 256, (x.val / 1 % 2 = 1 : Bool).toNat + 2 * (x.val / 2 % 2 = 1 : Bool).toNat + 4 * (x.val / 4 % 2 = 1 : Bool).toNat + 8 * (x.val / 8 % 2 = 1 : Bool).toNat + 16 * (x.val / 16 % 2 = 1 : Bool).toNat + 32 * (x.val / 32 % 2 = 1 : Bool).toNat + 64 * (x.val / 64 % 2 = 1 : Bool).toNat + 128 * (x.val / 128 % 2 = 1 : Bool).toNat = x.val := by decide +kernel
theorem bv_leV {b : Nat → Int} (hb : Byt b) : ∀ m, ((Fe.bv (bitB b) (8 * m) : Nat) : Int) = leV b m
  | 0 => rfl
  | m + 1 => by
    have ih := bv_leV hb m
    obtain ⟨x, hx⟩ : ∃ x : Fin 256, b m = (x.val : Int) := ⟨⟨(b m).toNat, by have := hb m; omega⟩, by have := hb m; dsimp only; omega⟩
    have hbit : ∀ r, r < 8 → bitB b (8 * m + r) = decide (x.val / 2 ^ r % 2 = 1) := fun r hr => by
      unfold bitB
      rw [show (8 * m + r) / 8 = m by omega, show (8 * m + r) % 8 = r by omega, hx, decide_eq_decide]
      have : (x.val : Int) / 2 ^ r % 2 = ((x.val / 2 ^ r % 2 : Nat) : Int) := by rw [Int.natCast_emod, Int.natCast_ediv, Int.natCast_pow]; rfl
      rw [this]
      omega
    have hs := bits_byte x
    rw [leV_succ, ← ih, hx]
    have e : Fe.bv (bitB b) (8 * (m + 1)) = Fe.bv (bitB b) (8 * m) + 2 ^ (8 * m) * x.val := by
      conv => rhs; rw [← hs]
      rw [show 8 * (m + 1) = 8 * m + 0 + 1 + 1 + 1 + 1 + 1 + 1 + 1 + 1 by omega]
      simp only [Fe.bv, Nat.pow_add]
      have q := fun r hr => hbit r hr
      have q0 := q 0 (by decide); have q1 := q 1 (by decide); have q2 := q 2 (by decide); have q3 := q 3 (by decide)
      have q4 := q 4 (by decide); have q5 := q 5 (by decide); have q6 := q 6 (by decide); have q7 := q 7 (by decide)
      simp only [Nat.add_assoc, Nat.add_zero] at q0 q1 q2 q3 q4 q5 q6 q7 ⊢
      rw [q0, q1, q2, q3, q4, q5, q6, q7]
      simp only [Nat.pow_zero, Nat.pow_one, Nat.reducePow]
      generalize 2 ^ (8 * m) = X
      generalize Fe.bv (bitB b) (8 * m) = Y
      simp only [Nat.mul_add, Nat.mul_assoc]
    rw [e]
    have h8 : (256 : Int) ^ m = ((2 ^ (8 * m) : Nat) : Int) := by rw [Nat.pow_mul]; simp
    rw [h8]
    simp
end Sc
