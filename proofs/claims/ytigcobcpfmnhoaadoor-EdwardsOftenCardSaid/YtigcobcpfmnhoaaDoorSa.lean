/- Plain: the order of the base point is a prime number. -/
import Derived.Test.YtigcobcpfmnhoaaDoorNt
namespace Nt
theorem pr1224481 : Pr 1224481 := prime_trial 1106 (by decide) (by decide) (by decide +kernel)
theorem pr531581 : Pr 531581 := prime_trial 729 (by decide) (by decide) (by decide +kernel)
theorem prLa : Pr 1257559732178653 := by
  refine prime_of (F := 1224481 * 531581) (by decide) (by decide) fun r hr hrn => ?_
  exact both_dvd pr1224481 (by decide) (ask_spec (R := 1027014492) (a := 2) (by decide) (by decide) pr1224481 (by decide +kernel) r hr hrn) (ask_spec (R := 2365697292) (a := 2) (by decide) (by decide) pr531581 (by decide +kernel) r hr hrn)
theorem prLb : Pr 4434155615661930479 := by
  refine prime_of (F := 1257559732178653) (by decide) (by decide) fun r hr hrn => ?_
  exact ask_spec (R := 3526) (a := 2) (by decide) (by decide) prLa (by decide +kernel) r hr hrn
theorem prLc : Pr 172054593956031949258510691 := by
  refine prime_of (F := 4434155615661930479) (by decide) (by decide) fun r hr hrn => ?_
  exact ask_spec (R := 38802110) (a := 2) (by decide) (by decide) prLb (by decide +kernel) r hr hrn
theorem prLd : Pr 19757330305831588566944191468367130476339 := by
  refine prime_of (F := 172054593956031949258510691) (by decide) (by decide) fun r hr hrn => ?_
  exact ask_spec (R := 114831751082918) (a := 2) (by decide) (by decide) prLc (by decide +kernel) r hr hrn
theorem prLe : Pr 276602624281642239937218680557139826668747 := by
  refine prime_of (F := 19757330305831588566944191468367130476339) (by decide) (by decide) fun r hr hrn => ?_
  exact ask_spec (R := 14) (a := 2) (by decide) (by decide) prLd (by decide +kernel) r hr hrn
theorem prLf : Pr 7237005577332262213973186563042994240857116359379907606001950938285454250989 := by
  refine prime_of (F := 276602624281642239937218680557139826668747) (by decide) (by decide) fun r hr hrn => ?_
  exact ask_spec (R := 26163907866482859529727157400808004) (a := 2) (by decide) (by decide) prLe (by decide +kernel) r hr hrn
end Nt
