/- What elements stand for, as numbers: sameness, oddness, roots. Plain. -/
import Derived.Test.YtigcobcpfmnhoaaDoorFr
import Derived.Test.YtigcobcpfmnhoaaDoorNt
namespace Fe
open Go.Proofs.YtigcobcpfmnhoaaDoor

theorem val_canon {a : E} (h : R a) : val (canon a) = (nv a : Int) := by rw [(canon_spec h).2, nv_int]
/-- two are one number -/
theorem same_iff {a b : E} (ha : R a) (hb : R b) : eqE (canon a) (canon b) = true ↔ nv a = nv b := by
  rw [eqE_iff]
  constructor
  · intro h
    have h1 := val_canon ha
    have h2 := val_canon hb
    rw [h] at h1
    omega
  intro h
  exact D.inj (canon_d a) (canon_d b) (by rw [val_canon ha, val_canon hb, h])
theorem same_dec {a b : E} (ha : R a) (hb : R b) : eqE (canon a) (canon b) = decide (nv a = nv b) := by
  have h := same_iff ha hb
  by_cases hn : nv a = nv b
  · rw [decide_eq_true hn, h.2 hn]
  rw [decide_eq_false hn, ← Bool.not_eq_true]
  exact fun hh => hn (h.1 hh)
theorem odd_iff {a : E} (h : R a) : (canon a).a0 % 2 = 1 ↔ nv a % 2 = 1 := by
  have h1 := val_canon h
  have hd := canon_d a
  simp only [D] at hd
  unfold val at h1
  omega
theorem zero_dec {a : E} (h : R a) : eqE (canon a) ⟨0, 0, 0, 0, 0⟩ = decide (nv a = 0) := by
  have h1 := val_canon h
  have hd := canon_d a
  by_cases hn : nv a = 0
  · rw [decide_eq_true hn, eqE_iff]
    refine D.inj hd (by simp only [D]; omega) ?_
    rw [h1, hn]; rfl
  rw [decide_eq_false hn, ← Bool.not_eq_true, eqE_iff]
  intro hh
  rw [hh] at h1
  have : val ⟨0, 0, 0, 0, 0⟩ = 0 := rfl
  omega

theorem R_zero : R ⟨0, 0, 0, 0, 0⟩ := by simp only [R]; omega
theorem R_one : R ⟨1, 0, 0, 0, 0⟩ := by simp only [R]; omega
theorem R_two : R ⟨2, 0, 0, 0, 0⟩ := by simp only [R]; omega
theorem nv_zero : nv ⟨0, 0, 0, 0, 0⟩ = 0 := by decide +kernel
theorem nv_one : nv ⟨1, 0, 0, 0, 0⟩ = 1 := by decide +kernel
theorem nv_two : nv ⟨2, 0, 0, 0, 0⟩ = 2 := by decide +kernel
theorem nv_neg {a : E} (h : R a) : nv (subE ⟨0, 0, 0, 0, 0⟩ a) = (P - nv a) % P := by
  rw [nv_sub R_zero h, nv_zero, Nat.zero_add]

/-- the exponent -/
def ex (n L : Nat) : Nat := 2 ^ n - L
theorem nv_pwx {a : E} (ha : R a) {n L : Nat} (hc : chk n L = true) (hL : L ≤ 2 ^ n) (h1 : 1 ≤ L) : nv (pw a n L n) = nv a ^ ex n L % P := by
  have h := nv_pw ha hc hL h1 n (Nat.le_refl _)
  rw [Nat.sub_self, Nat.pow_zero, Nat.div_one] at h
  exact h
theorem pm_ex (b n L : Nat) (h1 : 1 ≤ L) : b ^ ex n L % P = Nt.pm P b n (ex n L) % P := by
  refine (Nt.pm_eq P b n (ex n L) ?_).symm
  have : 0 < 2 ^ n := Nat.two_pow_pos n
  unfold ex
  omega
/-- roots, as numbers -/
def v3N (V : Nat) : Nat := V * V % P * V % P
def r0N (U V : Nat) : Nat := U * v3N V % P * ((U * (v3N V * v3N V % P * V % P) % P) ^ ex 252 3 % P) % P
def isN (r V : Nat) : Nat := r * r % P * V % P
def KK (b : Nat) : Nat := b ^ ex 253 5 % P
theorem KK_eq (b : Nat) : b ^ ex 253 5 % P = KK b := rfl
def fN (r : Nat) : Nat := if r % 2 = 1 then (P - r) % P else r
theorem nv_r0 {u v : E} (hu : R u) (hv : R v) : nv (r0E u v) = r0N (nv u) (nv v) ∧ R (r0E u v) := by
  have h1 := mulE_r hv hv
  have h2 := mulE_r h1.1 hv
  have h3 := mulE_r hu h2.1
  have h4 := mulE_r h2.1 h2.1
  have h5 := mulE_r h4.1 hv
  have h6 := mulE_r hu h5.1
  have h7 := pw_r h6.1 252 3 252
  have hp := nv_pwx h6.1 chk252 (by decide) (by decide)
  refine ⟨?_, (mulE_r h3.1 h7).1⟩
  unfold r0E
  rw [nv_mul h3.1 h7, hp, nv_mul hu h2.1, nv_mul hu h5.1, nv_mul h4.1 hv, nv_mul h2.1 h2.1, nv_mul h1.1 hv, nv_mul hv hv]
  rfl
theorem nv_is {r v : E} (hr : R r) (hv : R v) : nv (isE r v) = isN (nv r) (nv v) ∧ R (isE r v) := by
  have h1 := mulE_r hr hr
  refine ⟨?_, (mulE_r h1.1 hv).1⟩
  unfold isE
  rw [nv_mul h1.1 hv, nv_mul hr hr]
  rfl
theorem nv_k2 : nv k2 = KK 2 ∧ R k2 := by
  rw [k2_eq]
  refine ⟨?_, pw_r R_two _ _ _⟩
  exact (nv_pwx R_two chk253 (by decide) (by decide)).trans ((KK_eq _).trans (by rw [nv_two]))
theorem nv_turn {r : E} (hr : R r) : nv (turnE r) = nv r * KK 2 % P ∧ R (turnE r) := by
  unfold turnE
  rw [nv_mul hr nv_k2.2, nv_k2.1]
  exact ⟨rfl, (mulE_r hr nv_k2.2).1⟩
theorem nv_fin {r : E} (hr : R r) : nv (finE r) = fN (nv r) ∧ R (finE r) := by
  unfold finE fN
  by_cases h : (canon r).a0 % 2 = 1
  · rw [if_pos h, if_pos ((odd_iff hr).1 h)]
    exact ⟨nv_neg hr, (subE_r R_zero hr).1⟩
  rw [if_neg h, if_neg fun hh => h ((odd_iff hr).2 hh)]
  exact ⟨rfl, hr⟩
def bN (U V : Nat) : Bool := decide (isN (r0N U V) V = U) || decide (isN (r0N U V) V = (P - U) % P)
def rN (U V : Nat) : Nat := if isN (r0N U V) V = U then fN (r0N U V) else if isN (r0N U V) V = (P - U) % P then fN (r0N U V * KK 2 % P) else 0
theorem root_n {u v : E} (hu : R u) (hv : R v) : rootB u v = bN (nv u) (nv v) ∧ nv (rootE u v) = rN (nv u) (nv v) ∧ R (rootE u v) := by
  have h0 := nv_r0 hu hv
  have h1 := nv_is h0.2 hv
  have hn := subE_r R_zero hu
  unfold rootB rootE bN rN
  rw [same_dec h1.2 hu, same_dec h1.2 hn.1, h1.1, nv_neg hu, h0.1]
  refine ⟨rfl, ?_⟩
  by_cases ha : isN (r0N (nv u) (nv v)) (nv v) = nv u
  · simp only [ha, decide_true, if_true]
    have := nv_fin h0.2
    rw [h0.1] at this
    exact this
  simp only [ha, decide_false, Bool.false_eq_true, if_false]
  by_cases hb : isN (r0N (nv u) (nv v)) (nv v) = (P - nv u) % P
  · simp only [hb, decide_true, if_true]
    have ht := nv_turn h0.2
    have := nv_fin ht.2
    rw [ht.1, h0.1] at this
    exact this
  simp only [hb, decide_false, Bool.false_eq_true, if_false]
  exact ⟨nv_zero, R_zero⟩

/-- the same, by fast powers: for numbers that are known -/
def r0F (U V : Nat) : Nat := U * v3N V % P * (Nt.pm P (U * (v3N V * v3N V % P * V % P) % P) 252 (ex 252 3) % P) % P
theorem r0F_eq (U V : Nat) : r0N U V = r0F U V := by
  unfold r0N r0F
  rw [pm_ex _ 252 3 (by decide)]
theorem K2F_eq : KK 2 = Nt.pm P 2 253 (ex 253 5) % P := (KK_eq 2).symm.trans (pm_ex 2 253 5 (by decide))
end Fe
