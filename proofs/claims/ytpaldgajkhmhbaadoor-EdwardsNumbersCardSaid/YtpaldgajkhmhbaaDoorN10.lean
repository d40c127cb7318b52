/- The walk of is: an element stands for its number. -/
import Derived.Test.YtpaldgajkhmhbaaDoorN9
import Derived.Test.YtpaldgajkhmhbaaDoorBy
import Derived.Test.YtpaldgajkhmhbaaDoorRp
namespace Dg
open Fe
theorem dig_bit (n b q r : Nat) (hr : r < b) : n / 2 ^ (b * q) % 2 ^ b / 2 ^ r % 2 = n / 2 ^ (b * q + r) % 2 := by
  rw [Nat.pow_add, ← Nat.div_div_eq_div_mul]
  generalize n / 2 ^ (b * q) = y
  have hb : 2 ^ b = 2 ^ r * (2 ^ (b - 1 - r) * 2) := by
    rw [← Nat.pow_succ, ← Nat.pow_add, show r + (b - 1 - r + 1) = b by omega]
  rw [hb, Nat.mod_mul_right_div_self, Nat.mul_comm (2 ^ (b - 1 - r)) 2, Nat.mod_mul_right_mod]
theorem bits_ext {x y : Int} (hx : 0 ≤ x ∧ x < 256) (hy : 0 ≤ y ∧ y < 256) (h : ∀ r, r < 8 → x / 2 ^ r % 2 = y / 2 ^ r % 2) : x = y := by
  have h0 := h 0 (by decide); have h1 := h 1 (by decide); have h2 := h 2 (by decide); have h3 := h 3 (by decide)
  have h4 := h 4 (by decide); have h5 := h 5 (by decide); have h6 := h 6 (by decide); have h7 := h 7 (by decide)
  simp only [Int.reducePow] at *
  omega
theorem limb_n {y : E} {n : Nat} (hd : D y) (hv : val y = n) : ∀ i, i < 5 → limb y i = ((n / 2 ^ (51 * i) % 2 ^ 51 : Nat) : Int) := by
  intro i hi
  simp only [D, val] at hd hv
  have : i = 0 ∨ i = 1 ∨ i = 2 ∨ i = 3 ∨ i = 4 := by omega
  rcases this with rfl | rfl | rfl | rfl | rfl <;> simp only [limb, Nat.reduceMul, Nat.reducePow] <;> omega
theorem bit_n {y : E} {n : Nat} (hd : D y) (hv : val y = n) (m : Nat) (hm : m < 255) : bit y m = ((n / 2 ^ m % 2 : Nat) : Int) := by
  unfold bit
  rw [limb_n hd hv _ (by omega)]
  have h := dig_bit n 51 (m / 51) (m % 51) (by omega)
  rw [show 51 * (m / 51) + m % 51 = m by omega] at h
  rw [← h]
  simp only [Int.natCast_emod, Int.natCast_ediv, Int.natCast_pow]
  rfl
theorem put_rb {e : E} (hR : R e) : ∀ j, j < 32 → pb (canon e) 255 j = rb (nv e) j := by
  intro j hj
  have hd := canon_d e
  have hv := val_canon hR
  have hlt := nv_lt e
  have h1 : 0 ≤ rb (nv e) j ∧ rb (nv e) j < 256 := by unfold rb; omega
  refine bits_ext (pb_range _ _) h1 fun r hr => ?_
  have e2 : rb (nv e) j / 2 ^ r % 2 = ((nv e / 2 ^ (8 * j + r) % 2 : Nat) : Int) := by
    rw [← dig_bit (nv e) 8 j r hr]
    unfold rb
    rw [show (256 : Nat) ^ j = 2 ^ (8 * j) by rw [Nat.pow_mul]]
    simp only [Int.natCast_emod, Int.natCast_ediv, Int.natCast_pow]
    rfl
  rw [e2]
  by_cases hm : 8 * j + r < 255
  · have h3 := pb_bit (canon e) 255 (8 * j + r) hm
    rw [show (8 * j + r) / 8 = j by omega, show (8 * j + r) % 8 = r by omega] at h3
    rw [h3, bit_n hd hv _ hm]
  have hj31 : j = 31 := by omega
  have hr7 : r = 7 := by omega
  subst hj31 hr7
  have hl := pb_lt (canon e) 255 31
  have h4 : (2 : Int) ^ (min 8 (255 - 8 * 31)) = 128 := by rw [show min 8 (255 - 8 * 31) = 7 from rfl]; rfl
  rw [h4] at hl
  have h5 : pb (canon e) 255 31 / 2 ^ 7 = 0 := Int.ediv_eq_zero_of_lt hl.1 hl.2
  have h6 : nv e / 2 ^ (8 * 31 + 7) = 0 := Nat.div_eq_of_lt (Nat.lt_of_lt_of_le hlt (by unfold P; decide))
  rw [h5, h6]
  rfl
end Dg
namespace Go.Proofs.YtpaldgajkhmhbaaDoor
open Go.RowKit
theorem E_under : Tryd.prog.underlying 27 = some (.array 5 25) := by kernel_rfl
theorem E_size : (Tryd.prog.info? 27).map (·.size) = some 5 := by kernel_rfl
section
variable {ops : Array Oper} {rest : List Oper} {o : Oper} {a : Act} {w : World} {Q : Exit → Act → World → Prop}
end
def lst16 (f : Nat → Int) : List Int := [f 0, f 1, f 2, f 3, f 4, f 5, f 6, f 7, f 8, f 9, f 10, f 11, f 12, f 13, f 14, f 15]
def eqN (f g : Nat → Int) : Bool := decide (lst16 f = lst16 g)
theorem run_eql_N (f g : Nat → Int) (w : World) : (binOp .eql 33 (.agg (av f)) (.agg (av g))).run Tryd.prog w = .ok (.bool (eqN f g)) w :=
  run_eql_ints w 16 N_under u64_under u64_size (lst16 f) (lst16 g) rfl rfl
theorem run_neq_N (f g : Nat → Int) (w : World) : (binOp .neq 33 (.agg (av f)) (.agg (av g))).run Tryd.prog w = .ok (.bool (!eqN f g)) w :=
  run_neq_ints w 16 N_under u64_under u64_size (lst16 f) (lst16 g) rfl rfl
theorem eqN_dec {x y : Nat} (hx : x < Fe.P) (hy : y < Fe.P) : eqN (Dg.dg x) (Dg.dg y) = decide (x = y) := by
  unfold eqN
  by_cases h : x = y
  · subst h
    rw [decide_eq_true rfl, decide_eq_true rfl]
  rw [decide_eq_false h]
  refine decide_eq_false fun hl => h ?_
  have h1 : ∀ j, j < 16 → Dg.dg x j = Dg.dg y j := fun j hj => by
    have := congrArg (·[j]?) hl
    rcases lt16 hj with rfl | rfl | rfl | rfl | rfl | rfl | rfl | rfl | rfl | rfl | rfl | rfl | rfl | rfl | rfl | rfl <;> simpa [lst16] using this
  have h2 := Dg.sm_congr 16 h1
  rw [Dg.smP hx, Dg.smP hy] at h2
  omega
end Go.Proofs.YtpaldgajkhmhbaaDoor
