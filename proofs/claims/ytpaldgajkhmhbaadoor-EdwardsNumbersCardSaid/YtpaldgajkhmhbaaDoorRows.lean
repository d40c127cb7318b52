/-
  NARROWER THAN 'FOR EVERY INPUT', by the rows' own cells (each row's printed sentence says how): EdwardsGets: laid · EdwardsOn: laid · EdwardsCurve: laid · EdwardsAdds: laid · EdwardsGroup: laid · EdwardsMul: laid · EdwardsNumbers: laid · EdwardsOften: laid.
  DERIVED. THE GIVEN ROWS OF THIS SEAT. 8 by the template 'for every input the law returns true; each argument reads behind the call as it read before'; 0 by the template 'total and deterministic' (their statements: YtpaldgajkhmhbaaDoorTotals.lean).
  GIVEN WITH THE SEED: the statements are not yours to turn. If you find one false, say at which input.
  Laid BY PROGRAM, IN A SANDBOX (cutbox-rows.mjs): the forced cells as the released guide's own fill.sh prints them over the translation 8225f8f36e8da2f6… (all of the seat's roots in one cut). By AI agents, Wed Nov 11 2026. No macro, syntax, notation, axiom, sorry.
-/
import Derived.Test.YtpaldgajkhmhbaaDoorChecked
import GoSem.Claim
import GoSem.ClaimJoined
import GoSem.ClaimMapViews
import Derived.JoinedTies
import Derived.KernelRfl
namespace Go.Proofs.YtpaldgajkhmhbaaDoor
/- THE CELL 'sum', in the pinned program and in every row, IS THE sha256 OF THE DUMP (.gsa) THAT YtpaldgajkhmhbaaDoorProg.lean LOADS. Nothing in Lean hashes anything: it is a label: what it is worth is what the hold of that sum in a sandbox is worth. -/
noncomputable def Tryd.pinned : Pinned := { name := "ytpaldgajkhmhbaadoor", sum := "8225f8f36e8da2f6083a1f6e1e42aeb55ad5316383f18927b11334eaef8b57c0", checked := Tryd.checked }
namespace Rows
def none {H : Type} : Left H := { results := [], args := [] }

/- WHAT THE LISTED PACKAGE-LEVEL VARIABLES READ AS WHEN THE CALL BEGINS. Each datum BY PROGRAM (the guide's laid-datum.mjs) off the statement by which the dump's own 'gosem.cut.vars' lays the variable. In a bare row this is a premise. The card (YtpaldgajkhmhbaaDoorCards.lean) ties it to the program's text. -/
def laid_buttress_edwards_curve {H : Type} : DataW H := .agg [.lit (.int .u64 929955233495203), .lit (.int .u64 466365720129213), .lit (.int .u64 1662059464998953), .lit (.int .u64 2033849074728123), .lit (.int .u64 1442794654840575)]
def laid_buttress_edwards_twice {H : Type} : DataW H := .agg [.lit (.int .u64 1859910466990425), .lit (.int .u64 932731440258426), .lit (.int .u64 1072319116312658), .lit (.int .u64 1815898335770999), .lit (.int .u64 633789495995903)]

/-- 'buttresslaw04.EdwardsGets': WHATEVER THE INPUT: true; the input reads as it did. -/
def edwardsGetsSpec : ChangeSpec := { name := "edwardsGets", fn := fun _ => fun
  | [d] => { results := [.lit (.bool true)], args := [d] }
  | _ => none }
def edwardsGetsRow : OpenClaim := { program := "ytpaldgajkhmhbaadoor", sum := "8225f8f36e8da2f6083a1f6e1e42aeb55ad5316383f18927b11334eaef8b57c0", func := "buttress/buttresslaw04.EdwardsGets", spec := "edwardsGets", inPlace := ["math/bits.Add64"], unfollowed := true, recurses := true, named := ["buttress/edwards.curve", "buttress/edwards.twice"], apart := false, laid := [("buttress/edwards.curve", laid_buttress_edwards_curve), ("buttress/edwards.twice", laid_buttress_edwards_twice)] }
def EdwardsGetsSaid : Prop := edwardsGetsRow.holds Tryd.pinned (OpenSpec.ofChange edwardsGetsSpec)

/-- ITS FALSE NEIGHBOUR: 'it returns false'. Refute it at one input. -/
def edwardsGetsWrong : ChangeSpec := { name := "edwardsGets", fn := fun _ => fun
  | [d] => { results := [.lit (.bool false)], args := [d] }
  | _ => none }
def EdwardsGetsWrongFalsely : Prop := edwardsGetsRow.holds Tryd.pinned (OpenSpec.ofChange edwardsGetsWrong)

/-- 'buttresslaw04.EdwardsOn': WHATEVER THE INPUT: true; the input reads as it did. -/
def edwardsOnSpec : ChangeSpec := { name := "edwardsOn", fn := fun _ => fun
  | [d1, d2, d3, d4, d5, d6] => { results := [.lit (.bool true)], args := [d1, d2, d3, d4, d5, d6] }
  | _ => none }
def edwardsOnRow : OpenClaim := { program := "ytpaldgajkhmhbaadoor", sum := "8225f8f36e8da2f6083a1f6e1e42aeb55ad5316383f18927b11334eaef8b57c0", func := "buttress/buttresslaw04.EdwardsOn", spec := "edwardsOn", inPlace := ["math/bits.Add64"], unfollowed := true, recurses := true, named := ["buttress/edwards.curve", "buttress/edwards.twice"], apart := false, laid := [("buttress/edwards.curve", laid_buttress_edwards_curve), ("buttress/edwards.twice", laid_buttress_edwards_twice)] }
def EdwardsOnSaid : Prop := edwardsOnRow.holds Tryd.pinned (OpenSpec.ofChange edwardsOnSpec)

/-- ITS FALSE NEIGHBOUR: 'it returns false'. Refute it at one input. -/
def edwardsOnWrong : ChangeSpec := { name := "edwardsOn", fn := fun _ => fun
  | [d1, d2, d3, d4, d5, d6] => { results := [.lit (.bool false)], args := [d1, d2, d3, d4, d5, d6] }
  | _ => none }
def EdwardsOnWrongFalsely : Prop := edwardsOnRow.holds Tryd.pinned (OpenSpec.ofChange edwardsOnWrong)

/-- 'buttresslaw04.EdwardsCurve': WHATEVER THE INPUT: true; the input reads as it did. -/
def edwardsCurveSpec : ChangeSpec := { name := "edwardsCurve", fn := fun _ => fun
  | [d] => { results := [.lit (.bool true)], args := [d] }
  | _ => none }
def edwardsCurveRow : OpenClaim := { program := "ytpaldgajkhmhbaadoor", sum := "8225f8f36e8da2f6083a1f6e1e42aeb55ad5316383f18927b11334eaef8b57c0", func := "buttress/buttresslaw04.EdwardsCurve", spec := "edwardsCurve", inPlace := ["math/bits.Add64"], unfollowed := true, recurses := true, named := ["buttress/edwards.curve", "buttress/edwards.twice"], apart := false, laid := [("buttress/edwards.curve", laid_buttress_edwards_curve), ("buttress/edwards.twice", laid_buttress_edwards_twice)] }
def EdwardsCurveSaid : Prop := edwardsCurveRow.holds Tryd.pinned (OpenSpec.ofChange edwardsCurveSpec)

/-- ITS FALSE NEIGHBOUR: 'it returns false'. Refute it at one input. -/
def edwardsCurveWrong : ChangeSpec := { name := "edwardsCurve", fn := fun _ => fun
  | [d] => { results := [.lit (.bool false)], args := [d] }
  | _ => none }
def EdwardsCurveWrongFalsely : Prop := edwardsCurveRow.holds Tryd.pinned (OpenSpec.ofChange edwardsCurveWrong)

/-- 'buttresslaw04.EdwardsAdds': WHATEVER THE INPUT: true; the input reads as it did. -/
def edwardsAddsSpec : ChangeSpec := { name := "edwardsAdds", fn := fun _ => fun
  | [d1, d2, d3] => { results := [.lit (.bool true)], args := [d1, d2, d3] }
  | _ => none }
def edwardsAddsRow : OpenClaim := { program := "ytpaldgajkhmhbaadoor", sum := "8225f8f36e8da2f6083a1f6e1e42aeb55ad5316383f18927b11334eaef8b57c0", func := "buttress/buttresslaw04.EdwardsAdds", spec := "edwardsAdds", inPlace := ["math/bits.Add64"], unfollowed := true, recurses := true, named := ["buttress/edwards.curve", "buttress/edwards.twice"], apart := false, laid := [("buttress/edwards.curve", laid_buttress_edwards_curve), ("buttress/edwards.twice", laid_buttress_edwards_twice)] }
def EdwardsAddsSaid : Prop := edwardsAddsRow.holds Tryd.pinned (OpenSpec.ofChange edwardsAddsSpec)

/-- ITS FALSE NEIGHBOUR: 'it returns false'. Refute it at one input. -/
def edwardsAddsWrong : ChangeSpec := { name := "edwardsAdds", fn := fun _ => fun
  | [d1, d2, d3] => { results := [.lit (.bool false)], args := [d1, d2, d3] }
  | _ => none }
def EdwardsAddsWrongFalsely : Prop := edwardsAddsRow.holds Tryd.pinned (OpenSpec.ofChange edwardsAddsWrong)

/-- 'buttresslaw04.EdwardsGroup': WHATEVER THE INPUT: true; the input reads as it did. -/
def edwardsGroupSpec : ChangeSpec := { name := "edwardsGroup", fn := fun _ => fun
  | [d1, d2, d3] => { results := [.lit (.bool true)], args := [d1, d2, d3] }
  | _ => none }
def edwardsGroupRow : OpenClaim := { program := "ytpaldgajkhmhbaadoor", sum := "8225f8f36e8da2f6083a1f6e1e42aeb55ad5316383f18927b11334eaef8b57c0", func := "buttress/buttresslaw04.EdwardsGroup", spec := "edwardsGroup", inPlace := ["math/bits.Add64"], unfollowed := true, recurses := true, named := ["buttress/edwards.curve", "buttress/edwards.twice"], apart := false, laid := [("buttress/edwards.curve", laid_buttress_edwards_curve), ("buttress/edwards.twice", laid_buttress_edwards_twice)] }
def EdwardsGroupSaid : Prop := edwardsGroupRow.holds Tryd.pinned (OpenSpec.ofChange edwardsGroupSpec)

/-- ITS FALSE NEIGHBOUR: 'it returns false'. Refute it at one input. -/
def edwardsGroupWrong : ChangeSpec := { name := "edwardsGroup", fn := fun _ => fun
  | [d1, d2, d3] => { results := [.lit (.bool false)], args := [d1, d2, d3] }
  | _ => none }
def EdwardsGroupWrongFalsely : Prop := edwardsGroupRow.holds Tryd.pinned (OpenSpec.ofChange edwardsGroupWrong)

/-- 'buttresslaw04.EdwardsMul': WHATEVER THE INPUT: true; the input reads as it did. -/
def edwardsMulSpec : ChangeSpec := { name := "edwardsMul", fn := fun _ => fun
  | [d1, d2, d3] => { results := [.lit (.bool true)], args := [d1, d2, d3] }
  | _ => none }
def edwardsMulRow : OpenClaim := { program := "ytpaldgajkhmhbaadoor", sum := "8225f8f36e8da2f6083a1f6e1e42aeb55ad5316383f18927b11334eaef8b57c0", func := "buttress/buttresslaw04.EdwardsMul", spec := "edwardsMul", inPlace := ["math/bits.Add64"], unfollowed := true, recurses := true, named := ["buttress/edwards.curve", "buttress/edwards.twice"], apart := false, laid := [("buttress/edwards.curve", laid_buttress_edwards_curve), ("buttress/edwards.twice", laid_buttress_edwards_twice)] }
def EdwardsMulSaid : Prop := edwardsMulRow.holds Tryd.pinned (OpenSpec.ofChange edwardsMulSpec)

/-- ITS FALSE NEIGHBOUR: 'it returns false'. Refute it at one input. -/
def edwardsMulWrong : ChangeSpec := { name := "edwardsMul", fn := fun _ => fun
  | [d1, d2, d3] => { results := [.lit (.bool false)], args := [d1, d2, d3] }
  | _ => none }
def EdwardsMulWrongFalsely : Prop := edwardsMulRow.holds Tryd.pinned (OpenSpec.ofChange edwardsMulWrong)

/-- 'buttresslaw04.EdwardsNumbers': WHATEVER THE INPUT: true; the input reads as it did. -/
def edwardsNumbersSpec : ChangeSpec := { name := "edwardsNumbers", fn := fun _ => fun
  | [] => { results := [.lit (.bool true)], args := [] }
  | _ => none }
def edwardsNumbersRow : OpenClaim := { program := "ytpaldgajkhmhbaadoor", sum := "8225f8f36e8da2f6083a1f6e1e42aeb55ad5316383f18927b11334eaef8b57c0", func := "buttress/buttresslaw04.EdwardsNumbers", spec := "edwardsNumbers", inPlace := ["math/bits.Add64"], unfollowed := true, recurses := true, named := ["buttress/edwards.curve", "buttress/edwards.twice"], apart := false, laid := [("buttress/edwards.curve", laid_buttress_edwards_curve), ("buttress/edwards.twice", laid_buttress_edwards_twice)] }
def EdwardsNumbersSaid : Prop := edwardsNumbersRow.holds Tryd.pinned (OpenSpec.ofChange edwardsNumbersSpec)

/-- ITS FALSE NEIGHBOUR: 'it returns false'. Refute it at one input. -/
def edwardsNumbersWrong : ChangeSpec := { name := "edwardsNumbers", fn := fun _ => fun
  | [] => { results := [.lit (.bool false)], args := [] }
  | _ => none }
def EdwardsNumbersWrongFalsely : Prop := edwardsNumbersRow.holds Tryd.pinned (OpenSpec.ofChange edwardsNumbersWrong)

/-- 'buttresslaw04.EdwardsOften': WHATEVER THE INPUT: true; the input reads as it did. -/
def edwardsOftenSpec : ChangeSpec := { name := "edwardsOften", fn := fun _ => fun
  | [d1, d2, d3] => { results := [.lit (.bool true)], args := [d1, d2, d3] }
  | _ => none }
def edwardsOftenRow : OpenClaim := { program := "ytpaldgajkhmhbaadoor", sum := "8225f8f36e8da2f6083a1f6e1e42aeb55ad5316383f18927b11334eaef8b57c0", func := "buttress/buttresslaw04.EdwardsOften", spec := "edwardsOften", inPlace := ["math/bits.Add64", "math/bits.Sub64"], unfollowed := true, recurses := true, named := ["buttress/edwards.curve", "buttress/edwards.twice"], apart := false, laid := [("buttress/edwards.curve", laid_buttress_edwards_curve), ("buttress/edwards.twice", laid_buttress_edwards_twice)] }
def EdwardsOftenSaid : Prop := edwardsOftenRow.holds Tryd.pinned (OpenSpec.ofChange edwardsOftenSpec)

/-- ITS FALSE NEIGHBOUR: 'it returns false'. Refute it at one input. -/
def edwardsOftenWrong : ChangeSpec := { name := "edwardsOften", fn := fun _ => fun
  | [d1, d2, d3] => { results := [.lit (.bool false)], args := [d1, d2, d3] }
  | _ => none }
def EdwardsOftenWrongFalsely : Prop := edwardsOftenRow.holds Tryd.pinned (OpenSpec.ofChange edwardsOftenWrong)

/- THE SECOND FORM. 'bulk': how many values and letters a reading holds, each counted each time it is reached (what is shared counts as often as it is met; a slice's spare places count too). A statement '..UptoSaid' is the law's where the arguments, and the package variables that the reading takes, are together of bulk at most 1048576: NARROWER than '..Said'. Prove '..Said' where nothing that the law and all that it calls make is longer than what came in: it says more and counts as full. Else prove '..UptoSaid'. A law counts once. -/
mutual
def uptoBulk {H : Type} : DataW H → Nat
  | .lit (.string bytes) => bytes.length + 1
  | .lit _ => 1
  | .nil => 1
  | .ptr d => uptoBulk d + 1
  | .slice elems spare => uptoBulkAll elems + uptoBulkAll spare + 1
  | .agg parts => uptoBulkAll parts + 1
  | .iface _ d => uptoBulk d + 1
  | .map entries => uptoBulkEntries entries + 1
  | .held _ => 1
def uptoBulkAll {H : Type} : List (DataW H) → Nat
  | [] => 0
  | d :: r => uptoBulk d + uptoBulkAll r
def uptoBulkEntries {H : Type} : List (Lit × DataW H) → Nat
  | [] => 0
  | x :: r => uptoBulkEntry x + uptoBulkEntries r
def uptoBulkEntry {H : Type} : Lit × DataW H → Nat
  | (.string bytes, d) => bytes.length + uptoBulk d + 1
  | (_, d) => uptoBulk d + 1
 end
def uptoSmall : (H : Type) → List (DataW H) → Bool := fun _ ds => decide (uptoBulkAll ds ≤ 1048576)
def OpenSpec.upto (s : _root_.Go.ChangeSpec) : _root_.Go.OpenSpec := { _root_.Go.OpenSpec.ofChange s with cond := some uptoSmall }

/-- 'buttresslaw04.EdwardsGets', WHERE WHAT IT READS IS OF BULK AT MOST 1048576: true; the input reads as it did. -/
def edwardsGetsUptoRow : OpenClaim := { program := "ytpaldgajkhmhbaadoor", sum := "8225f8f36e8da2f6083a1f6e1e42aeb55ad5316383f18927b11334eaef8b57c0", func := "buttress/buttresslaw04.EdwardsGets", spec := "edwardsGets", inPlace := ["math/bits.Add64"], unfollowed := true, recurses := true, named := ["buttress/edwards.curve", "buttress/edwards.twice"], apart := false, laid := [("buttress/edwards.curve", laid_buttress_edwards_curve), ("buttress/edwards.twice", laid_buttress_edwards_twice)], narrowed := true }
def EdwardsGetsUptoSaid : Prop := edwardsGetsUptoRow.holds Tryd.pinned (OpenSpec.upto edwardsGetsSpec)

/-- 'buttresslaw04.EdwardsOn', WHERE WHAT IT READS IS OF BULK AT MOST 1048576: true; the input reads as it did. -/
def edwardsOnUptoRow : OpenClaim := { program := "ytpaldgajkhmhbaadoor", sum := "8225f8f36e8da2f6083a1f6e1e42aeb55ad5316383f18927b11334eaef8b57c0", func := "buttress/buttresslaw04.EdwardsOn", spec := "edwardsOn", inPlace := ["math/bits.Add64"], unfollowed := true, recurses := true, named := ["buttress/edwards.curve", "buttress/edwards.twice"], apart := false, laid := [("buttress/edwards.curve", laid_buttress_edwards_curve), ("buttress/edwards.twice", laid_buttress_edwards_twice)], narrowed := true }
def EdwardsOnUptoSaid : Prop := edwardsOnUptoRow.holds Tryd.pinned (OpenSpec.upto edwardsOnSpec)

/-- 'buttresslaw04.EdwardsCurve', WHERE WHAT IT READS IS OF BULK AT MOST 1048576: true; the input reads as it did. -/
def edwardsCurveUptoRow : OpenClaim := { program := "ytpaldgajkhmhbaadoor", sum := "8225f8f36e8da2f6083a1f6e1e42aeb55ad5316383f18927b11334eaef8b57c0", func := "buttress/buttresslaw04.EdwardsCurve", spec := "edwardsCurve", inPlace := ["math/bits.Add64"], unfollowed := true, recurses := true, named := ["buttress/edwards.curve", "buttress/edwards.twice"], apart := false, laid := [("buttress/edwards.curve", laid_buttress_edwards_curve), ("buttress/edwards.twice", laid_buttress_edwards_twice)], narrowed := true }
def EdwardsCurveUptoSaid : Prop := edwardsCurveUptoRow.holds Tryd.pinned (OpenSpec.upto edwardsCurveSpec)

/-- 'buttresslaw04.EdwardsAdds', WHERE WHAT IT READS IS OF BULK AT MOST 1048576: true; the input reads as it did. -/
def edwardsAddsUptoRow : OpenClaim := { program := "ytpaldgajkhmhbaadoor", sum := "8225f8f36e8da2f6083a1f6e1e42aeb55ad5316383f18927b11334eaef8b57c0", func := "buttress/buttresslaw04.EdwardsAdds", spec := "edwardsAdds", inPlace := ["math/bits.Add64"], unfollowed := true, recurses := true, named := ["buttress/edwards.curve", "buttress/edwards.twice"], apart := false, laid := [("buttress/edwards.curve", laid_buttress_edwards_curve), ("buttress/edwards.twice", laid_buttress_edwards_twice)], narrowed := true }
def EdwardsAddsUptoSaid : Prop := edwardsAddsUptoRow.holds Tryd.pinned (OpenSpec.upto edwardsAddsSpec)

/-- 'buttresslaw04.EdwardsGroup', WHERE WHAT IT READS IS OF BULK AT MOST 1048576: true; the input reads as it did. -/
def edwardsGroupUptoRow : OpenClaim := { program := "ytpaldgajkhmhbaadoor", sum := "8225f8f36e8da2f6083a1f6e1e42aeb55ad5316383f18927b11334eaef8b57c0", func := "buttress/buttresslaw04.EdwardsGroup", spec := "edwardsGroup", inPlace := ["math/bits.Add64"], unfollowed := true, recurses := true, named := ["buttress/edwards.curve", "buttress/edwards.twice"], apart := false, laid := [("buttress/edwards.curve", laid_buttress_edwards_curve), ("buttress/edwards.twice", laid_buttress_edwards_twice)], narrowed := true }
def EdwardsGroupUptoSaid : Prop := edwardsGroupUptoRow.holds Tryd.pinned (OpenSpec.upto edwardsGroupSpec)

/-- 'buttresslaw04.EdwardsMul', WHERE WHAT IT READS IS OF BULK AT MOST 1048576: true; the input reads as it did. -/
def edwardsMulUptoRow : OpenClaim := { program := "ytpaldgajkhmhbaadoor", sum := "8225f8f36e8da2f6083a1f6e1e42aeb55ad5316383f18927b11334eaef8b57c0", func := "buttress/buttresslaw04.EdwardsMul", spec := "edwardsMul", inPlace := ["math/bits.Add64"], unfollowed := true, recurses := true, named := ["buttress/edwards.curve", "buttress/edwards.twice"], apart := false, laid := [("buttress/edwards.curve", laid_buttress_edwards_curve), ("buttress/edwards.twice", laid_buttress_edwards_twice)], narrowed := true }
def EdwardsMulUptoSaid : Prop := edwardsMulUptoRow.holds Tryd.pinned (OpenSpec.upto edwardsMulSpec)

/-- 'buttresslaw04.EdwardsNumbers', WHERE WHAT IT READS IS OF BULK AT MOST 1048576: true; the input reads as it did. -/
def edwardsNumbersUptoRow : OpenClaim := { program := "ytpaldgajkhmhbaadoor", sum := "8225f8f36e8da2f6083a1f6e1e42aeb55ad5316383f18927b11334eaef8b57c0", func := "buttress/buttresslaw04.EdwardsNumbers", spec := "edwardsNumbers", inPlace := ["math/bits.Add64"], unfollowed := true, recurses := true, named := ["buttress/edwards.curve", "buttress/edwards.twice"], apart := false, laid := [("buttress/edwards.curve", laid_buttress_edwards_curve), ("buttress/edwards.twice", laid_buttress_edwards_twice)], narrowed := true }
def EdwardsNumbersUptoSaid : Prop := edwardsNumbersUptoRow.holds Tryd.pinned (OpenSpec.upto edwardsNumbersSpec)

/-- 'buttresslaw04.EdwardsOften', WHERE WHAT IT READS IS OF BULK AT MOST 1048576: true; the input reads as it did. -/
def edwardsOftenUptoRow : OpenClaim := { program := "ytpaldgajkhmhbaadoor", sum := "8225f8f36e8da2f6083a1f6e1e42aeb55ad5316383f18927b11334eaef8b57c0", func := "buttress/buttresslaw04.EdwardsOften", spec := "edwardsOften", inPlace := ["math/bits.Add64", "math/bits.Sub64"], unfollowed := true, recurses := true, named := ["buttress/edwards.curve", "buttress/edwards.twice"], apart := false, laid := [("buttress/edwards.curve", laid_buttress_edwards_curve), ("buttress/edwards.twice", laid_buttress_edwards_twice)], narrowed := true }
def EdwardsOftenUptoSaid : Prop := edwardsOftenUptoRow.holds Tryd.pinned (OpenSpec.upto edwardsOftenSpec)

end Rows
end Go.Proofs.YtpaldgajkhmhbaaDoor
