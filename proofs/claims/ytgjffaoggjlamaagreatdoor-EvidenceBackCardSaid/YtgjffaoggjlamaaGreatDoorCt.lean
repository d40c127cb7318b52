/- Plain: the example's digest, number, key and point, reckoned by the kernel. -/
import Derived.Test.YtgjffaoggjlamaaGreatDoorCr
import Derived.Test.YtgjffaoggjlamaaGreatDoorCs
namespace Fe
open Go.Proofs.YtgjffaoggjlamaaGreatDoor
end Fe
namespace Sh
open Go Go.Proofs.YtgjffaoggjlamaaGreatDoor Go.Proofs
def j32 (f : Nat → Nat) (j : Nat) : Nat := if j < 32 then f j else if j = 32 then 128 else if j < 120 then 0 else 256 / 2 ^ (56 - 8 * (j - 120)) % 256
theorem sum32 {f : Nat → Int} {g : Nat → Nat} (hf : ∀ j, j < 32 → f j = (g j : Int)) : sumI 32 f = outI (blkI ivI (fun j => (j32 g j : Int))) := by
  show outI (blkI ivI (fun j => joinI 32 f (128 * 0 + j))) = _
  have e : (fun j => joinI 32 f (128 * 0 + j)) = fun j => (j32 g j : Int) := funext fun j => by
    rw [show 128 * 0 + j = j by omega]
    unfold joinI j32 endI
    by_cases h : j < 32
    · rw [if_pos h, if_pos h, hf j h]
    rw [if_neg h, if_neg h]
    by_cases h1 : j = 32
    · rw [if_pos (by omega), if_pos h1]; rfl
    rw [if_neg (by omega), if_neg h1]
    have hz : zerI 32 = 79 := by decide
    rw [hz]
    by_cases h2 : j < 120
    · rw [if_pos (by omega), if_pos h2]; rfl
    rw [if_neg (by omega), if_neg h2, show j - 32 - (9 + 79) = j - 120 by omega]
    show (256 : Int) / 2 ^ _ % 256 = _
    simp
  rw [e]
/-- the 64 bytes, given the eight words -/
theorem sum_of {f : Nat → Int} {g : Nat → Nat} {x0 x1 x2 x3 x4 x5 x6 x7 : Nat} {D : List Nat} (hf : ∀ j, j < 32 → f j = (g j : Int)) (h : shaN (j32 g) = [x0, x1, x2, x3, x4, x5, x6, x7])
    (hD : ∀ j : Fin 64, (ivN.getD (j.val / 8) 0 + [x0, x1, x2, x3, x4, x5, x6, x7].getD (j.val / 8) 0) % 18446744073709551616 / 2 ^ (56 - 8 * (j.val % 8)) % 256 = D.getD j.val 0) : ∀ j, j < 64 → sumI 32 f j = ((D.getD j 0 : Nat) : Int) := fun j hj => by
  rw [sum32 hf, ← hD ⟨j, hj⟩]
  unfold outI
  rw [shaN_ok h (j / 8) (by omega)]
  simp
def seed0N (j : Nat) : Nat := (seed0L.getD j 0).toNat
def dL : List Nat := [53, 124, 131, 134, 79, 40, 51, 203, 66, 122, 46, 241, 192, 10, 1, 60, 253, 255, 39, 104, 217, 128, 192, 163, 165, 32, 240, 6, 144, 77, 233, 15, 155, 79, 10, 254, 40, 11, 116, 106, 119, 134, 132, 231, 84, 66, 80, 32, 87, 183, 71, 58, 3, 240, 143, 150, 245, 163, 142, 146, 135, 224, 31, 143]
def eL : List Nat := [182, 177, 156, 216, 224, 66, 111, 89, 131, 250, 17, 45, 137, 161, 67, 170, 151, 218, 184, 188, 93, 235, 141, 91, 98, 83, 201, 40, 182, 82, 114, 244, 4, 64, 152, 194, 169, 144, 3, 156, 222, 91, 106, 72, 24, 223, 11, 251, 110, 64, 220, 93, 238, 84, 36, 128, 50, 150, 35, 35, 231, 1, 53, 45]
def aL : List Nat := [48, 124, 131, 134, 79, 40, 51, 203, 66, 122, 46, 241, 192, 10, 1, 60, 253, 255, 39, 104, 217, 128, 192, 163, 165, 32, 240, 6, 144, 77, 233, 79]
theorem dig0 : ∀ j, j < 64 → sumI 32 seed0F j = ((dL.getD j 0 : Nat) : Int) :=
  sum_of (g := seed0N) (fun j hj => (show ∀ j : Fin 32, seed0F j.val = (seed0N j.val : Int) by decide +kernel) ⟨j, hj⟩) (x0 := 14659952490752731843) (x1 := 9732982947039894017) (x2 := 13947705176999315576) (x3 := 18433509029732987422) (x4 := 5350479210670780825) (x5 := 15889012138195543041) (x6 := 4049700946734666283) (x7 := 11079630760672624150) (by decide +kernel) (by decide +kernel)
theorem dig1 {f : Nat → Int} (hf : ∀ j, j < 32 → f j = ((dL.getD (32 + j) 0 : Nat) : Int)) : ∀ j, j < 64 → sumI 32 f j = ((eL.getD j 0 : Nat) : Int) :=
  sum_of (g := fun j => dL.getD (32 + j) 0) hf (x0 := 5523584064113976913) (x1 := 14452722627960544367) (x2 := 6587575798882276656) (x3 := 13619962718717295619) (x4 := 12912460335128608971) (x5 := 4852067555195527132) (x6 := 5673694068867229461) (x7 := 15471366699399451572) (by decide +kernel) (by decide +kernel)
theorem a0 : (Sc.leV (clampI (sumI 32 seed0F)) 32).toNat = 36144925721603087658594284515452164870581325872720374094707712194495455132720 := by
  have h : ∀ j, j < 32 → clampI (sumI 32 seed0F) j = ((aL.getD j 0 : Nat) : Int) := fun j hj => by
    have h1 : clampI (sumI 32 seed0F) j = clampI (fun j => ((dL.getD j 0 : Nat) : Int)) j := by
      unfold clampI
      rw [dig0 31 (by decide), dig0 0 (by decide), dig0 j (by omega)]
    rw [h1]
    exact (show ∀ j : Fin 32, clampI (fun j => ((dL.getD j 0 : Nat) : Int)) j.val = ((aL.getD j.val 0 : Nat) : Int) by decide +kernel) ⟨j, hj⟩
  rw [Sc.leV_congr 32 h]
  decide +kernel
theorem r0 : (Sc.leV (Sc.byt (rI seed0F [])) 32).toNat = 2015312323900227545039973048451112962192803170366412514267238242679089760755 := by
  have h : rI seed0F [] = 2015312323900227545039973048451112962192803170366412514267238242679089760755 := by
    show Sc.leV (sumI 32 (catI [(32, fun j => clampI (sumI 32 seed0F) (32 + j))])) 64 % LI = _
    have h1 := dig1 (f := catI [(32, fun j => clampI (sumI 32 seed0F) (32 + j))]) (fun j hj => by
      unfold catI
      rw [if_pos hj]
      show clampI (sumI 32 seed0F) (32 + j) = _
      unfold clampI
      rw [if_neg (by omega), if_neg (by omega), dig0 _ (by omega)])
    rw [Sc.leV_congr 64 h1]
    unfold LI
    decide +kernel
  rw [h, leV_bytL (by decide) (by unfold LI; decide)]
  rfl
end Sh
