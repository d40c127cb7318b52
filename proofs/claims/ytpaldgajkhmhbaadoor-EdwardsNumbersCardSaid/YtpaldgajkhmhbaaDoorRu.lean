/- Roots as the reference tells them are those of the program. Plain. -/
import Derived.Test.YtpaldgajkhmhbaaDoorRs
namespace Fe
open Go.Proofs.YtpaldgajkhmhbaaDoor
def e8 : Nat := (P + 3) / 2 / 2 / 2
def e4 : Nat := (P - 1) / 2 / 2
theorem e8_two : e8 + e8 = qr + 1 := by unfold e8 qr P; decide
theorem e4_two : e4 + e4 = hf := by unfold e4 hf P; decide
theorem qr_8 : 8 * qr = (P - 1) + (P - 1) := by unfold qr P; decide
theorem P_two : (P - 2) + 1 = P - 1 := by unfold P; decide
def wN (U V : Nat) : Nat := U * (V ^ (P - 2) % P) % P
theorem wN_lt (U V : Nat) : wN U V < P := Nat.mod_lt _ P_pos
theorem w_mul {U V : Nat} (hU : U < P) (hV : V < P) (hV0 : V ≠ 0) : wN U V * V % P = U := by
  unfold wN
  rw [Nat.mod_mul_mod, Nat.mul_assoc, ← Nat.mul_mod_mod, Nat.mod_mul_mod, ← Nat.pow_succ, Nat.succ_eq_add_one, P_two, Nt.fermat prP (not_dvd hV hV0), Nat.mul_one, Nat.mod_eq_of_lt hU]
theorem w_ne {U V : Nat} (hU : U < P) (hV : V < P) (hU0 : U ≠ 0) (hV0 : V ≠ 0) : wN U V ≠ 0 := fun h => by
  have := w_mul hU hV hV0
  rw [h] at this
  simp at this
  exact hU0 this.symm
def tN (w : Nat) : Nat := w ^ qr % P
theorem tN_lt (w : Nat) : tN w < P := Nat.mod_lt _ P_pos
theorem r0_sq (w : Nat) : w ^ e8 % P * (w ^ e8 % P) % P = w * tN w % P := by
  unfold tN
  rw [← Nat.mul_mod, ← Nat.pow_add, e8_two, Nat.mul_mod_mod, Nat.pow_succ, Nat.mul_comm]
theorem isN_w {U V : Nat} (hU : U < P) (hV : V < P) (hV0 : V ≠ 0) : isN (r0N U V) V = U * tN (wN U V) % P := by
  have hw := w_mul hU hV hV0
  rw [is_eq, Nat.mul_mod]
  generalize wN U V = w at hw
  have h1 : (U * V ^ 7) ^ qr % P = tN w := by
    have e1 : U * V ^ 7 % P = w * V ^ 8 % P := by
      rw [← hw, Nat.mod_mul_mod]
      congr 1
      have h8 : V ^ 8 = V * V ^ 7 := by rw [Nat.pow_succ, Nat.mul_comm]
      rw [h8, ← Nat.mul_assoc]
    rw [Nat.pow_mod, e1, ← Nat.pow_mod, Nat.mul_pow, ← Nat.pow_mul, qr_8, Nat.pow_add, Nat.mul_mod, Nat.mul_mod (V ^ (P - 1)), Nt.fermat prP (not_dvd hV hV0)]
    rw [Nat.mul_one, Nat.mod_eq_of_lt P_one, Nat.mul_one, Nat.mod_mod]
    rfl
  rw [h1, Nat.mod_mul_mod]
theorem mul_one_iff {A t : Nat} (hA : A < P) (h0 : A ≠ 0) (ht : t < P) : A * t % P = A ↔ t = 1 := by
  constructor
  · intro h
    have h1 : t * A % P = 1 * A % P := by rw [Nat.mul_comm, h, Nat.one_mul, Nat.mod_eq_of_lt hA]
    have := Nt.mod_cancel prP (not_dvd hA h0) h1
    rw [Nat.mod_eq_of_lt ht, Nat.mod_eq_of_lt P_one] at this
    exact this
  intro h
  rw [h, Nat.mul_one, Nat.mod_eq_of_lt hA]
theorem mul_neg_iff {A t : Nat} (hA : A < P) (h0 : A ≠ 0) (ht : t < P) : A * t % P = (P - A) % P ↔ t = P - 1 := by
  rw [← neg_mod hA]
  constructor
  · intro h
    have h1 : t * A % P = (P - 1) * A % P := by rw [Nat.mul_comm, h, Nat.mul_comm]
    have := Nt.mod_cancel prP (not_dvd hA h0) h1
    rw [Nat.mod_eq_of_lt ht, Nat.mod_eq_of_lt (by have := P_pos; omega)] at this
    exact this
  intro h
  rw [h]
theorem bN_t {U V : Nat} (hU : U < P) (hV : V < P) (hU0 : U ≠ 0) (hV0 : V ≠ 0) : bN U V = (decide (tN (wN U V) = 1) || decide (tN (wN U V) = P - 1)) := by
  unfold bN
  rw [isN_w hU hV hV0]
  have h1 := mul_one_iff hU hU0 (tN_lt (wN U V))
  have h2 := mul_neg_iff hU hU0 (tN_lt (wN U V))
  rw [decide_eq_decide.2 h1, decide_eq_decide.2 h2]
theorem k_sq : 2 ^ e4 % P * (2 ^ e4 % P) % P = P - 1 := by
  rw [← Nat.mul_mod, ← Nat.pow_add, e4_two, two_hf]
theorem sq4 {a b c : Nat} (hc : c * c % P = b) : a * c % P * (a * c % P) % P = a * a % P * b % P := by
  rw [← Nat.mul_mod, ← hc, Nat.mul_mod_mod, Nat.mod_mul_mod]
  congr 1
  grind
/-- the first root, the second -/
theorem k1_iff {w : Nat} (hw : w < P) (h0 : w ≠ 0) : w ^ e8 % P * (w ^ e8 % P) % P = w ↔ tN w = 1 := by
  rw [r0_sq]
  exact mul_one_iff hw h0 (tN_lt w)
theorem k2_iff {w kk : Nat} (hw : w < P) (h0 : w ≠ 0) (hk : kk * kk % P = P - 1) : w ^ e8 % P * kk % P * (w ^ e8 % P * kk % P) % P = w ↔ tN w = P - 1 := by
  rw [sq4 hk, r0_sq]
  have ht := tN_lt w
  generalize tN w = t at *
  rw [Nat.mod_mul_mod, Nat.mul_assoc, ← Nat.mul_mod_mod, neg_mod ht]
  rw [mul_one_iff hw h0 (Nat.mod_lt _ P_pos)]
  have hP := P_one
  constructor
  · intro h
    rcases Nat.eq_zero_or_pos t with h1 | h1
    · subst h1; simp at h
    rw [Nat.mod_eq_of_lt (by omega)] at h
    omega
  intro h
  rw [h, show P - (P - 1) = 1 by omega, Nat.mod_eq_of_lt hP]
theorem even_eq {z r : Nat} (hr : r < P) (hz2 : z % 2 = 0) (hr2 : r % 2 = 0) (h : z = r ∨ z = (P - r) % P) : z = r := by
  rcases h with h | h
  · exact h
  rcases Nat.eq_zero_or_pos r with h0 | h0
  · rw [h0] at h ⊢
    rw [h]; simp
  rw [Nat.mod_eq_of_lt (by omega)] at h
  have := P_odd
  omega
theorem root_even {U V rr : Nat} (hU : U < P) (hV : V < P) (hV0 : V ≠ 0) (hb : bN U V = true) (hrr : rr < P) (h : rr * rr % P = wN U V) : fN rr = rN U V := by
  have h1 : fN rr * fN rr % P * V % P = rN U V * rN U V % P * V % P := by
    rw [rN_sq hU hb, fN_sq hrr, h, w_mul hU hV hV0]
  exact even_eq (rN_lt U V) (fN_even hrr) rN_even (root_pm (fN_lt hrr) (rN_lt U V) hV hV0 h1)
theorem rN_0 {V : Nat} : bN 0 V = true ∧ rN 0 V = 0 := by
  have h0 : r0N 0 V = 0 := by unfold r0N; rw [Nat.zero_mul, Nat.zero_mod, Nat.zero_mul, Nat.zero_mod]
  have h1 : isN (r0N 0 V) V = 0 := by rw [h0]; unfold isN; rw [Nat.zero_mul, Nat.zero_mod, Nat.zero_mul, Nat.zero_mod]
  constructor
  · unfold bN; rw [h1]; simp
  unfold rN; rw [if_pos h1, h0]; rfl
theorem bN_0 {U : Nat} (hU : U < P) (hU0 : U ≠ 0) : bN U 0 = false := by
  have h1 : isN (r0N U 0) 0 = 0 := by unfold isN; rw [Nat.mul_zero, Nat.zero_mod]
  unfold bN
  rw [h1, decide_eq_false (fun h => hU0 h.symm), decide_eq_false (fun h => by rw [Nat.mod_eq_of_lt (by omega)] at h; omega)]
  rfl
end Fe
