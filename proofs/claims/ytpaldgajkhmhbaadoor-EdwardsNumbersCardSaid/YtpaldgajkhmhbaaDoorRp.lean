/- The ring's laws, as numbers modulo p; the contracts of FieldRing. Plain. -/
import Derived.Test.YtpaldgajkhmhbaaDoorBy
namespace Fe
open Go.Proofs.YtpaldgajkhmhbaaDoor
theorem P_one : 1 < P := by unfold P; decide
theorem prP : Nt.Pr P := Nt.prp
theorem not_dvd {n : Nat} (h : n < P) (h0 : n ≠ 0) : ¬ P ∣ n := fun hd => by
  have := Nat.le_of_dvd (by omega) hd
  omega
end Fe
