/-
  NARROWER THAN 'FOR EVERY INPUT', by the rows' own cells (each row's printed sentence says how): RootGets: laid · RootPuts: laid · GrantOwn: laid · GrantFinds: laid · GrantEach: laid · EvidenceGets: laid · RecordBack: laid · BreakerForged: laid · BreakerClash: laid · BreakerTells: laid · BreakerHonest: laid · BreakerEnds: laid.
  DERIVED. THE GIVEN ROWS OF THIS SEAT. 12 by the template 'for every input the law returns true; each argument reads behind the call as it read before'; 0 by the template 'total and deterministic' (their statements: YtnopjabcdloepaaGreatDoorTotals.lean).
  GIVEN WITH THE SEED: the statements are not yours to turn. If you find one false, say at which input.
  Laid BY PROGRAM, IN A SANDBOX (cutbox-rows.mjs): the forced cells as the released guide's own fill.sh prints them over the translation e64ad84d1a8b0eae… (all of the seat's roots in one cut). By AI agents, Wed Nov 11 2026. No macro, syntax, notation, axiom, sorry.
-/
import Derived.Test.YtnopjabcdloepaaGreatDoorChecked
import GoSem.Claim
import GoSem.ClaimJoined
import GoSem.ClaimMapViews
import Derived.JoinedTies
import Derived.KernelRfl
namespace Go.Proofs.YtnopjabcdloepaaGreatDoor
/- THE CELL 'sum', in the pinned program and in every row, IS THE sha256 OF THE DUMP (.gsa) THAT YtnopjabcdloepaaGreatDoorProg.lean LOADS. Nothing in Lean hashes anything: it is a label: what it is worth is what the hold of that sum in a sandbox is worth. -/
noncomputable def Tryz.pinned : Pinned := { name := "ytnopjabcdloepaagreatdoor", sum := "e64ad84d1a8b0eae11396883b51ff8e224b21962188fc13859af8840996da795", checked := Tryz.checked }
namespace Rows
def none {H : Type} : Left H := { results := [], args := [] }

/- WHAT THE LISTED PACKAGE-LEVEL VARIABLES READ AS WHEN THE CALL BEGINS. Each datum BY PROGRAM (the guide's laid-datum.mjs) off the statement by which the dump's own 'gosem.cut.vars' lays the variable. In a bare row this is a premise. The card (YtnopjabcdloepaaGreatDoorCards.lean) ties it to the program's text. -/
def laid_buttress_edwards_curve {H : Type} : DataW H := .agg [.lit (.int .u64 929955233495203), .lit (.int .u64 466365720129213), .lit (.int .u64 1662059464998953), .lit (.int .u64 2033849074728123), .lit (.int .u64 1442794654840575)]
def laid_buttress_edwards_twice {H : Type} : DataW H := .agg [.lit (.int .u64 1859910466990425), .lit (.int .u64 932731440258426), .lit (.int .u64 1072319116312658), .lit (.int .u64 1815898335770999), .lit (.int .u64 633789495995903)]
def laid_buttress_sha_begin {H : Type} : DataW H := .agg [.lit (.int .u64 7640891576956012808), .lit (.int .u64 13503953896175478587), .lit (.int .u64 4354685564936845355), .lit (.int .u64 11912009170470909681), .lit (.int .u64 5840696475078001361), .lit (.int .u64 11170449401992604703), .lit (.int .u64 2270897969802886507), .lit (.int .u64 6620516959819538809)]
def laid_buttress_sha_rest {H : Type} : DataW H := .agg [.lit (.int .u64 4794697086780616226), .lit (.int .u64 8158064640168781261), .lit (.int .u64 13096744586834688815), .lit (.int .u64 16840607885511220156), .lit (.int .u64 4131703408338449720), .lit (.int .u64 6480981068601479193), .lit (.int .u64 10538285296894168987), .lit (.int .u64 12329834152419229976), .lit (.int .u64 15566598209576043074), .lit (.int .u64 1334009975649890238), .lit (.int .u64 2608012711638119052), .lit (.int .u64 6128411473006802146), .lit (.int .u64 8268148722764581231), .lit (.int .u64 9286055187155687089), .lit (.int .u64 11230858885718282805), .lit (.int .u64 13951009754708518548), .lit (.int .u64 16472876342353939154), .lit (.int .u64 17275323862435702243), .lit (.int .u64 1135362057144423861), .lit (.int .u64 2597628984639134821), .lit (.int .u64 3308224258029322869), .lit (.int .u64 5365058923640841347), .lit (.int .u64 6679025012923562964), .lit (.int .u64 8573033837759648693), .lit (.int .u64 10970295158949994411), .lit (.int .u64 12119686244451234320), .lit (.int .u64 12683024718118986047), .lit (.int .u64 13788192230050041572), .lit (.int .u64 14330467153632333762), .lit (.int .u64 15395433587784984357), .lit (.int .u64 489312712824947311), .lit (.int .u64 1452737877330783856), .lit (.int .u64 2861767655752347644), .lit (.int .u64 3322285676063803686), .lit (.int .u64 5560940570517711597), .lit (.int .u64 5996557281743188959), .lit (.int .u64 7280758554555802590), .lit (.int .u64 8532644243296465576), .lit (.int .u64 9350256976987008742), .lit (.int .u64 10552545826968843579), .lit (.int .u64 11727347734174303076), .lit (.int .u64 12113106623233404929), .lit (.int .u64 14000437183269869457), .lit (.int .u64 14369950271660146224), .lit (.int .u64 15101387698204529176), .lit (.int .u64 15463397548674623760), .lit (.int .u64 17586052441742319658), .lit (.int .u64 1182934255886127544), .lit (.int .u64 1847814050463011016), .lit (.int .u64 2177327727835720531), .lit (.int .u64 2830643537854262169), .lit (.int .u64 3796741975233480872), .lit (.int .u64 4115178125766777443), .lit (.int .u64 5681478168544905931), .lit (.int .u64 6601373596472566643), .lit (.int .u64 7507060721942968483), .lit (.int .u64 8399075790359081724), .lit (.int .u64 8693463985226723168), .lit (.int .u64 9568029438360202098), .lit (.int .u64 10144078919501101548), .lit (.int .u64 10430055236837252648), .lit (.int .u64 11840083180663258601), .lit (.int .u64 13761210420658862357), .lit (.int .u64 14299343276471374635), .lit (.int .u64 14566680578165727644), .lit (.int .u64 15097957966210449927), .lit (.int .u64 16922976911328602910), .lit (.int .u64 17689382322260857208), .lit (.int .u64 500013540394364858), .lit (.int .u64 748580250866718886), .lit (.int .u64 1242879168328830382), .lit (.int .u64 1977374033974150939), .lit (.int .u64 2944078676154940804), .lit (.int .u64 3659926193048069267), .lit (.int .u64 4368137639120453308), .lit (.int .u64 4836135668995329356), .lit (.int .u64 5532061633213252278), .lit (.int .u64 6448918945643986474), .lit (.int .u64 6902733635092675308), .lit (.int .u64 7801388544844847127)]

/-- 'buttresslaw15.RootGets': WHATEVER THE INPUT: true; the input reads as it did. -/
def rootGetsSpec : ChangeSpec := { name := "rootGets", fn := fun _ => fun
  | [d] => { results := [.lit (.bool true)], args := [d] }
  | _ => none }
def rootGetsRow : OpenClaim := { program := "ytnopjabcdloepaagreatdoor", sum := "e64ad84d1a8b0eae11396883b51ff8e224b21962188fc13859af8840996da795", func := "buttress/buttresslaw15.RootGets", spec := "rootGets", inPlace := ["math/bits.Add64", "slices.overlaps[[]byte]", "math/bits.Sub64"], unfollowed := true, recurses := true, named := ["buttress/sha.begin", "buttress/sha.rest", "buttress/edwards.curve", "buttress/edwards.twice"], apart := false, laid := [("buttress/edwards.curve", laid_buttress_edwards_curve), ("buttress/edwards.twice", laid_buttress_edwards_twice), ("buttress/sha.begin", laid_buttress_sha_begin), ("buttress/sha.rest", laid_buttress_sha_rest)] }
def RootGetsSaid : Prop := rootGetsRow.holds Tryz.pinned (OpenSpec.ofChange rootGetsSpec)

/-- ITS FALSE NEIGHBOUR: 'it returns false'. Refute it at one input. -/
def rootGetsWrong : ChangeSpec := { name := "rootGets", fn := fun _ => fun
  | [d] => { results := [.lit (.bool false)], args := [d] }
  | _ => none }
def RootGetsWrongFalsely : Prop := rootGetsRow.holds Tryz.pinned (OpenSpec.ofChange rootGetsWrong)

/-- 'buttresslaw15.RootPuts': WHATEVER THE INPUT: true; the input reads as it did. -/
def rootPutsSpec : ChangeSpec := { name := "rootPuts", fn := fun _ => fun
  | [d] => { results := [.lit (.bool true)], args := [d] }
  | _ => none }
def rootPutsRow : OpenClaim := { program := "ytnopjabcdloepaagreatdoor", sum := "e64ad84d1a8b0eae11396883b51ff8e224b21962188fc13859af8840996da795", func := "buttress/buttresslaw15.RootPuts", spec := "rootPuts", inPlace := ["math/bits.Add64", "slices.overlaps[[]byte]", "math/bits.Sub64"], unfollowed := true, recurses := true, named := ["buttress/sha.begin", "buttress/sha.rest", "buttress/edwards.curve", "buttress/edwards.twice"], apart := false, laid := [("buttress/edwards.curve", laid_buttress_edwards_curve), ("buttress/edwards.twice", laid_buttress_edwards_twice), ("buttress/sha.begin", laid_buttress_sha_begin), ("buttress/sha.rest", laid_buttress_sha_rest)] }
def RootPutsSaid : Prop := rootPutsRow.holds Tryz.pinned (OpenSpec.ofChange rootPutsSpec)

/-- ITS FALSE NEIGHBOUR: 'it returns false'. Refute it at one input. -/
def rootPutsWrong : ChangeSpec := { name := "rootPuts", fn := fun _ => fun
  | [d] => { results := [.lit (.bool false)], args := [d] }
  | _ => none }
def RootPutsWrongFalsely : Prop := rootPutsRow.holds Tryz.pinned (OpenSpec.ofChange rootPutsWrong)

/-- 'buttresslaw10.GrantOwn': WHATEVER THE INPUT: true; the input reads as it did. -/
def grantOwnSpec : ChangeSpec := { name := "grantOwn", fn := fun _ => fun
  | [d1, d2, d3, d4] => { results := [.lit (.bool true)], args := [d1, d2, d3, d4] }
  | _ => none }
def grantOwnRow : OpenClaim := { program := "ytnopjabcdloepaagreatdoor", sum := "e64ad84d1a8b0eae11396883b51ff8e224b21962188fc13859af8840996da795", func := "buttress/buttresslaw10.GrantOwn", spec := "grantOwn", inPlace := ["math/bits.Add64", "slices.overlaps[[]byte]", "math/bits.Sub64"], unfollowed := true, recurses := true, named := ["buttress/sha.begin", "buttress/sha.rest", "buttress/edwards.curve", "buttress/edwards.twice"], apart := false, laid := [("buttress/edwards.curve", laid_buttress_edwards_curve), ("buttress/edwards.twice", laid_buttress_edwards_twice), ("buttress/sha.begin", laid_buttress_sha_begin), ("buttress/sha.rest", laid_buttress_sha_rest)] }
def GrantOwnSaid : Prop := grantOwnRow.holds Tryz.pinned (OpenSpec.ofChange grantOwnSpec)

/-- ITS FALSE NEIGHBOUR: 'it returns false'. Refute it at one input. -/
def grantOwnWrong : ChangeSpec := { name := "grantOwn", fn := fun _ => fun
  | [d1, d2, d3, d4] => { results := [.lit (.bool false)], args := [d1, d2, d3, d4] }
  | _ => none }
def GrantOwnWrongFalsely : Prop := grantOwnRow.holds Tryz.pinned (OpenSpec.ofChange grantOwnWrong)

/-- 'buttresslaw10.GrantFinds': WHATEVER THE INPUT: true; the input reads as it did. -/
def grantFindsSpec : ChangeSpec := { name := "grantFinds", fn := fun _ => fun
  | [d1, d2] => { results := [.lit (.bool true)], args := [d1, d2] }
  | _ => none }
def grantFindsRow : OpenClaim := { program := "ytnopjabcdloepaagreatdoor", sum := "e64ad84d1a8b0eae11396883b51ff8e224b21962188fc13859af8840996da795", func := "buttress/buttresslaw10.GrantFinds", spec := "grantFinds", inPlace := ["math/bits.Add64", "slices.overlaps[[]byte]", "math/bits.Sub64"], unfollowed := true, recurses := true, named := ["buttress/sha.begin", "buttress/sha.rest", "buttress/edwards.curve", "buttress/edwards.twice"], apart := false, laid := [("buttress/edwards.curve", laid_buttress_edwards_curve), ("buttress/edwards.twice", laid_buttress_edwards_twice), ("buttress/sha.begin", laid_buttress_sha_begin), ("buttress/sha.rest", laid_buttress_sha_rest)] }
def GrantFindsSaid : Prop := grantFindsRow.holds Tryz.pinned (OpenSpec.ofChange grantFindsSpec)

/-- ITS FALSE NEIGHBOUR: 'it returns false'. Refute it at one input. -/
def grantFindsWrong : ChangeSpec := { name := "grantFinds", fn := fun _ => fun
  | [d1, d2] => { results := [.lit (.bool false)], args := [d1, d2] }
  | _ => none }
def GrantFindsWrongFalsely : Prop := grantFindsRow.holds Tryz.pinned (OpenSpec.ofChange grantFindsWrong)

/-- 'buttresslaw10.GrantEach': WHATEVER THE INPUT: true; the input reads as it did. -/
def grantEachSpec : ChangeSpec := { name := "grantEach", fn := fun _ => fun
  | [d1, d2, d3] => { results := [.lit (.bool true)], args := [d1, d2, d3] }
  | _ => none }
def grantEachRow : OpenClaim := { program := "ytnopjabcdloepaagreatdoor", sum := "e64ad84d1a8b0eae11396883b51ff8e224b21962188fc13859af8840996da795", func := "buttress/buttresslaw10.GrantEach", spec := "grantEach", inPlace := ["math/bits.Add64", "slices.overlaps[[]byte]", "math/bits.Sub64"], unfollowed := true, recurses := true, named := ["buttress/sha.begin", "buttress/sha.rest", "buttress/edwards.curve", "buttress/edwards.twice"], apart := false, laid := [("buttress/edwards.curve", laid_buttress_edwards_curve), ("buttress/edwards.twice", laid_buttress_edwards_twice), ("buttress/sha.begin", laid_buttress_sha_begin), ("buttress/sha.rest", laid_buttress_sha_rest)] }
def GrantEachSaid : Prop := grantEachRow.holds Tryz.pinned (OpenSpec.ofChange grantEachSpec)

/-- ITS FALSE NEIGHBOUR: 'it returns false'. Refute it at one input. -/
def grantEachWrong : ChangeSpec := { name := "grantEach", fn := fun _ => fun
  | [d1, d2, d3] => { results := [.lit (.bool false)], args := [d1, d2, d3] }
  | _ => none }
def GrantEachWrongFalsely : Prop := grantEachRow.holds Tryz.pinned (OpenSpec.ofChange grantEachWrong)

/-- 'buttresslaw16.EvidenceGets': WHATEVER THE INPUT: true; the input reads as it did. -/
def evidenceGetsSpec : ChangeSpec := { name := "evidenceGets", fn := fun _ => fun
  | [d1, d2, d3, d4, d5, d6, d7] => { results := [.lit (.bool true)], args := [d1, d2, d3, d4, d5, d6, d7] }
  | _ => none }
def evidenceGetsRow : OpenClaim := { program := "ytnopjabcdloepaagreatdoor", sum := "e64ad84d1a8b0eae11396883b51ff8e224b21962188fc13859af8840996da795", func := "buttress/buttresslaw16.EvidenceGets", spec := "evidenceGets", inPlace := ["math/bits.Add64", "slices.overlaps[[]byte]", "math/bits.Sub64", "internal/bytealg.Compare"], unfollowed := true, recurses := true, named := ["buttress/sha.begin", "buttress/sha.rest", "buttress/edwards.curve", "buttress/edwards.twice"], apart := false, laid := [("buttress/edwards.curve", laid_buttress_edwards_curve), ("buttress/edwards.twice", laid_buttress_edwards_twice), ("buttress/sha.begin", laid_buttress_sha_begin), ("buttress/sha.rest", laid_buttress_sha_rest)] }
def EvidenceGetsSaid : Prop := evidenceGetsRow.holds Tryz.pinned (OpenSpec.ofChange evidenceGetsSpec)

/-- ITS FALSE NEIGHBOUR: 'it returns false'. Refute it at one input. -/
def evidenceGetsWrong : ChangeSpec := { name := "evidenceGets", fn := fun _ => fun
  | [d1, d2, d3, d4, d5, d6, d7] => { results := [.lit (.bool false)], args := [d1, d2, d3, d4, d5, d6, d7] }
  | _ => none }
def EvidenceGetsWrongFalsely : Prop := evidenceGetsRow.holds Tryz.pinned (OpenSpec.ofChange evidenceGetsWrong)

/-- 'buttresslaw08.RecordBack': WHATEVER THE INPUT: true; the input reads as it did. -/
def recordBackSpec : ChangeSpec := { name := "recordBack", fn := fun _ => fun
  | [d1, d2, d3] => { results := [.lit (.bool true)], args := [d1, d2, d3] }
  | _ => none }
def recordBackRow : OpenClaim := { program := "ytnopjabcdloepaagreatdoor", sum := "e64ad84d1a8b0eae11396883b51ff8e224b21962188fc13859af8840996da795", func := "buttress/buttresslaw08.RecordBack", spec := "recordBack", inPlace := ["math/bits.Add64", "slices.overlaps[[]byte]", "math/bits.Sub64"], unfollowed := true, recurses := true, named := ["buttress/sha.begin", "buttress/sha.rest", "buttress/edwards.curve", "buttress/edwards.twice"], apart := false, laid := [("buttress/edwards.curve", laid_buttress_edwards_curve), ("buttress/edwards.twice", laid_buttress_edwards_twice), ("buttress/sha.begin", laid_buttress_sha_begin), ("buttress/sha.rest", laid_buttress_sha_rest)] }
def RecordBackSaid : Prop := recordBackRow.holds Tryz.pinned (OpenSpec.ofChange recordBackSpec)

/-- ITS FALSE NEIGHBOUR: 'it returns false'. Refute it at one input. -/
def recordBackWrong : ChangeSpec := { name := "recordBack", fn := fun _ => fun
  | [d1, d2, d3] => { results := [.lit (.bool false)], args := [d1, d2, d3] }
  | _ => none }
def RecordBackWrongFalsely : Prop := recordBackRow.holds Tryz.pinned (OpenSpec.ofChange recordBackWrong)

/-- 'buttresslaw29.BreakerForged': WHATEVER THE INPUT: true; the input reads as it did. -/
def breakerForgedSpec : ChangeSpec := { name := "breakerForged", fn := fun _ => fun
  | [d1, d2, d3] => { results := [.lit (.bool true)], args := [d1, d2, d3] }
  | _ => none }
def breakerForgedRow : OpenClaim := { program := "ytnopjabcdloepaagreatdoor", sum := "e64ad84d1a8b0eae11396883b51ff8e224b21962188fc13859af8840996da795", func := "buttress/buttresslaw29.BreakerForged", spec := "breakerForged", inPlace := ["math/bits.Add64", "slices.overlaps[[]byte]", "math/bits.Sub64"], unfollowed := true, recurses := true, named := ["buttress/sha.begin", "buttress/sha.rest", "buttress/edwards.curve", "buttress/edwards.twice"], apart := false, laid := [("buttress/edwards.curve", laid_buttress_edwards_curve), ("buttress/edwards.twice", laid_buttress_edwards_twice), ("buttress/sha.begin", laid_buttress_sha_begin), ("buttress/sha.rest", laid_buttress_sha_rest)] }
def BreakerForgedSaid : Prop := breakerForgedRow.holds Tryz.pinned (OpenSpec.ofChange breakerForgedSpec)

/-- ITS FALSE NEIGHBOUR: 'it returns false'. Refute it at one input. -/
def breakerForgedWrong : ChangeSpec := { name := "breakerForged", fn := fun _ => fun
  | [d1, d2, d3] => { results := [.lit (.bool false)], args := [d1, d2, d3] }
  | _ => none }
def BreakerForgedWrongFalsely : Prop := breakerForgedRow.holds Tryz.pinned (OpenSpec.ofChange breakerForgedWrong)

/-- 'buttresslaw29.BreakerClash': WHATEVER THE INPUT: true; the input reads as it did. -/
def breakerClashSpec : ChangeSpec := { name := "breakerClash", fn := fun _ => fun
  | [d] => { results := [.lit (.bool true)], args := [d] }
  | _ => none }
def breakerClashRow : OpenClaim := { program := "ytnopjabcdloepaagreatdoor", sum := "e64ad84d1a8b0eae11396883b51ff8e224b21962188fc13859af8840996da795", func := "buttress/buttresslaw29.BreakerClash", spec := "breakerClash", inPlace := ["math/bits.Add64", "slices.overlaps[[]byte]", "math/bits.Sub64"], unfollowed := true, recurses := true, named := ["buttress/sha.begin", "buttress/sha.rest", "buttress/edwards.curve", "buttress/edwards.twice"], apart := false, laid := [("buttress/edwards.curve", laid_buttress_edwards_curve), ("buttress/edwards.twice", laid_buttress_edwards_twice), ("buttress/sha.begin", laid_buttress_sha_begin), ("buttress/sha.rest", laid_buttress_sha_rest)] }
def BreakerClashSaid : Prop := breakerClashRow.holds Tryz.pinned (OpenSpec.ofChange breakerClashSpec)

/-- ITS FALSE NEIGHBOUR: 'it returns false'. Refute it at one input. -/
def breakerClashWrong : ChangeSpec := { name := "breakerClash", fn := fun _ => fun
  | [d] => { results := [.lit (.bool false)], args := [d] }
  | _ => none }
def BreakerClashWrongFalsely : Prop := breakerClashRow.holds Tryz.pinned (OpenSpec.ofChange breakerClashWrong)

/-- 'buttresslaw29.BreakerTells': WHATEVER THE INPUT: true; the input reads as it did. -/
def breakerTellsSpec : ChangeSpec := { name := "breakerTells", fn := fun _ => fun
  | [d1, d2] => { results := [.lit (.bool true)], args := [d1, d2] }
  | _ => none }
def breakerTellsRow : OpenClaim := { program := "ytnopjabcdloepaagreatdoor", sum := "e64ad84d1a8b0eae11396883b51ff8e224b21962188fc13859af8840996da795", func := "buttress/buttresslaw29.BreakerTells", spec := "breakerTells", inPlace := ["math/bits.Add64", "slices.overlaps[[]byte]", "math/bits.Sub64"], unfollowed := true, recurses := true, named := ["buttress/sha.begin", "buttress/sha.rest", "buttress/edwards.curve", "buttress/edwards.twice"], apart := false, laid := [("buttress/edwards.curve", laid_buttress_edwards_curve), ("buttress/edwards.twice", laid_buttress_edwards_twice), ("buttress/sha.begin", laid_buttress_sha_begin), ("buttress/sha.rest", laid_buttress_sha_rest)] }
def BreakerTellsSaid : Prop := breakerTellsRow.holds Tryz.pinned (OpenSpec.ofChange breakerTellsSpec)

/-- ITS FALSE NEIGHBOUR: 'it returns false'. Refute it at one input. -/
def breakerTellsWrong : ChangeSpec := { name := "breakerTells", fn := fun _ => fun
  | [d1, d2] => { results := [.lit (.bool false)], args := [d1, d2] }
  | _ => none }
def BreakerTellsWrongFalsely : Prop := breakerTellsRow.holds Tryz.pinned (OpenSpec.ofChange breakerTellsWrong)

/-- 'buttresslaw29.BreakerHonest': WHATEVER THE INPUT: true; the input reads as it did. -/
def breakerHonestSpec : ChangeSpec := { name := "breakerHonest", fn := fun _ => fun
  | [d1, d2, d3] => { results := [.lit (.bool true)], args := [d1, d2, d3] }
  | _ => none }
def breakerHonestRow : OpenClaim := { program := "ytnopjabcdloepaagreatdoor", sum := "e64ad84d1a8b0eae11396883b51ff8e224b21962188fc13859af8840996da795", func := "buttress/buttresslaw29.BreakerHonest", spec := "breakerHonest", inPlace := ["math/bits.Add64", "slices.overlaps[[]byte]", "math/bits.Sub64"], unfollowed := true, recurses := true, named := ["buttress/sha.begin", "buttress/sha.rest", "buttress/edwards.curve", "buttress/edwards.twice"], apart := false, laid := [("buttress/edwards.curve", laid_buttress_edwards_curve), ("buttress/edwards.twice", laid_buttress_edwards_twice), ("buttress/sha.begin", laid_buttress_sha_begin), ("buttress/sha.rest", laid_buttress_sha_rest)] }
def BreakerHonestSaid : Prop := breakerHonestRow.holds Tryz.pinned (OpenSpec.ofChange breakerHonestSpec)

/-- ITS FALSE NEIGHBOUR: 'it returns false'. Refute it at one input. -/
def breakerHonestWrong : ChangeSpec := { name := "breakerHonest", fn := fun _ => fun
  | [d1, d2, d3] => { results := [.lit (.bool false)], args := [d1, d2, d3] }
  | _ => none }
def BreakerHonestWrongFalsely : Prop := breakerHonestRow.holds Tryz.pinned (OpenSpec.ofChange breakerHonestWrong)

/-- 'buttresslaw29.BreakerEnds': WHATEVER THE INPUT: true; the input reads as it did. -/
def breakerEndsSpec : ChangeSpec := { name := "breakerEnds", fn := fun _ => fun
  | [] => { results := [.lit (.bool true)], args := [] }
  | _ => none }
def breakerEndsRow : OpenClaim := { program := "ytnopjabcdloepaagreatdoor", sum := "e64ad84d1a8b0eae11396883b51ff8e224b21962188fc13859af8840996da795", func := "buttress/buttresslaw29.BreakerEnds", spec := "breakerEnds", inPlace := ["math/bits.Add64", "slices.overlaps[[]byte]", "math/bits.Sub64"], unfollowed := true, recurses := true, named := ["buttress/sha.begin", "buttress/sha.rest", "buttress/edwards.curve", "buttress/edwards.twice"], apart := false, laid := [("buttress/edwards.curve", laid_buttress_edwards_curve), ("buttress/edwards.twice", laid_buttress_edwards_twice), ("buttress/sha.begin", laid_buttress_sha_begin), ("buttress/sha.rest", laid_buttress_sha_rest)] }
def BreakerEndsSaid : Prop := breakerEndsRow.holds Tryz.pinned (OpenSpec.ofChange breakerEndsSpec)

/-- ITS FALSE NEIGHBOUR: 'it returns false'. Refute it at one input. -/
def breakerEndsWrong : ChangeSpec := { name := "breakerEnds", fn := fun _ => fun
  | [] => { results := [.lit (.bool false)], args := [] }
  | _ => none }
def BreakerEndsWrongFalsely : Prop := breakerEndsRow.holds Tryz.pinned (OpenSpec.ofChange breakerEndsWrong)

/- THE SECOND FORM. 'bulk': how many values and letters a reading holds, each counted each time it is reached (what is shared counts as often as it is met; a slice's spare places count too). A statement '..UptoSaid' is the law's where the arguments, and the package variables that the reading takes, are together of bulk at most 1048576: NARROWER than '..Said'. Prove '..Said' where nothing that the law and all that it calls make is longer than what came in: it says more and counts as full. Else prove '..UptoSaid'. A law counts once. -/
mutual
def uptoBulk {H : Type} : DataW H → Nat
  | .lit (.string bytes) => bytes.length + 1
  | .lit _ => 1
  | .nil => 1
  | .ptr d => uptoBulk d + 1
  | .slice elems spare => uptoBulkAll elems + uptoBulkAll spare + 1
  | .agg parts => uptoBulkAll parts + 1
  | .iface _ d => uptoBulk d + 1
  | .map entries => uptoBulkEntries entries + 1
  | .held _ => 1
def uptoBulkAll {H : Type} : List (DataW H) → Nat
  | [] => 0
  | d :: r => uptoBulk d + uptoBulkAll r
def uptoBulkEntries {H : Type} : List (Lit × DataW H) → Nat
  | [] => 0
  | x :: r => uptoBulkEntry x + uptoBulkEntries r
def uptoBulkEntry {H : Type} : Lit × DataW H → Nat
  | (.string bytes, d) => bytes.length + uptoBulk d + 1
  | (_, d) => uptoBulk d + 1
 end
def uptoSmall : (H : Type) → List (DataW H) → Bool := fun _ ds => decide (uptoBulkAll ds ≤ 1048576)
def OpenSpec.upto (s : _root_.Go.ChangeSpec) : _root_.Go.OpenSpec := { _root_.Go.OpenSpec.ofChange s with cond := some uptoSmall }

/-- 'buttresslaw15.RootGets', WHERE WHAT IT READS IS OF BULK AT MOST 1048576: true; the input reads as it did. -/
def rootGetsUptoRow : OpenClaim := { program := "ytnopjabcdloepaagreatdoor", sum := "e64ad84d1a8b0eae11396883b51ff8e224b21962188fc13859af8840996da795", func := "buttress/buttresslaw15.RootGets", spec := "rootGets", inPlace := ["math/bits.Add64", "slices.overlaps[[]byte]", "math/bits.Sub64"], unfollowed := true, recurses := true, named := ["buttress/sha.begin", "buttress/sha.rest", "buttress/edwards.curve", "buttress/edwards.twice"], apart := false, laid := [("buttress/edwards.curve", laid_buttress_edwards_curve), ("buttress/edwards.twice", laid_buttress_edwards_twice), ("buttress/sha.begin", laid_buttress_sha_begin), ("buttress/sha.rest", laid_buttress_sha_rest)], narrowed := true }
def RootGetsUptoSaid : Prop := rootGetsUptoRow.holds Tryz.pinned (OpenSpec.upto rootGetsSpec)

/-- 'buttresslaw15.RootPuts', WHERE WHAT IT READS IS OF BULK AT MOST 1048576: true; the input reads as it did. -/
def rootPutsUptoRow : OpenClaim := { program := "ytnopjabcdloepaagreatdoor", sum := "e64ad84d1a8b0eae11396883b51ff8e224b21962188fc13859af8840996da795", func := "buttress/buttresslaw15.RootPuts", spec := "rootPuts", inPlace := ["math/bits.Add64", "slices.overlaps[[]byte]", "math/bits.Sub64"], unfollowed := true, recurses := true, named := ["buttress/sha.begin", "buttress/sha.rest", "buttress/edwards.curve", "buttress/edwards.twice"], apart := false, laid := [("buttress/edwards.curve", laid_buttress_edwards_curve), ("buttress/edwards.twice", laid_buttress_edwards_twice), ("buttress/sha.begin", laid_buttress_sha_begin), ("buttress/sha.rest", laid_buttress_sha_rest)], narrowed := true }
def RootPutsUptoSaid : Prop := rootPutsUptoRow.holds Tryz.pinned (OpenSpec.upto rootPutsSpec)

/-- 'buttresslaw10.GrantOwn', WHERE WHAT IT READS IS OF BULK AT MOST 1048576: true; the input reads as it did. -/
def grantOwnUptoRow : OpenClaim := { program := "ytnopjabcdloepaagreatdoor", sum := "e64ad84d1a8b0eae11396883b51ff8e224b21962188fc13859af8840996da795", func := "buttress/buttresslaw10.GrantOwn", spec := "grantOwn", inPlace := ["math/bits.Add64", "slices.overlaps[[]byte]", "math/bits.Sub64"], unfollowed := true, recurses := true, named := ["buttress/sha.begin", "buttress/sha.rest", "buttress/edwards.curve", "buttress/edwards.twice"], apart := false, laid := [("buttress/edwards.curve", laid_buttress_edwards_curve), ("buttress/edwards.twice", laid_buttress_edwards_twice), ("buttress/sha.begin", laid_buttress_sha_begin), ("buttress/sha.rest", laid_buttress_sha_rest)], narrowed := true }
def GrantOwnUptoSaid : Prop := grantOwnUptoRow.holds Tryz.pinned (OpenSpec.upto grantOwnSpec)

/-- 'buttresslaw10.GrantFinds', WHERE WHAT IT READS IS OF BULK AT MOST 1048576: true; the input reads as it did. -/
def grantFindsUptoRow : OpenClaim := { program := "ytnopjabcdloepaagreatdoor", sum := "e64ad84d1a8b0eae11396883b51ff8e224b21962188fc13859af8840996da795", func := "buttress/buttresslaw10.GrantFinds", spec := "grantFinds", inPlace := ["math/bits.Add64", "slices.overlaps[[]byte]", "math/bits.Sub64"], unfollowed := true, recurses := true, named := ["buttress/sha.begin", "buttress/sha.rest", "buttress/edwards.curve", "buttress/edwards.twice"], apart := false, laid := [("buttress/edwards.curve", laid_buttress_edwards_curve), ("buttress/edwards.twice", laid_buttress_edwards_twice), ("buttress/sha.begin", laid_buttress_sha_begin), ("buttress/sha.rest", laid_buttress_sha_rest)], narrowed := true }
def GrantFindsUptoSaid : Prop := grantFindsUptoRow.holds Tryz.pinned (OpenSpec.upto grantFindsSpec)

/-- 'buttresslaw10.GrantEach', WHERE WHAT IT READS IS OF BULK AT MOST 1048576: true; the input reads as it did. -/
def grantEachUptoRow : OpenClaim := { program := "ytnopjabcdloepaagreatdoor", sum := "e64ad84d1a8b0eae11396883b51ff8e224b21962188fc13859af8840996da795", func := "buttress/buttresslaw10.GrantEach", spec := "grantEach", inPlace := ["math/bits.Add64", "slices.overlaps[[]byte]", "math/bits.Sub64"], unfollowed := true, recurses := true, named := ["buttress/sha.begin", "buttress/sha.rest", "buttress/edwards.curve", "buttress/edwards.twice"], apart := false, laid := [("buttress/edwards.curve", laid_buttress_edwards_curve), ("buttress/edwards.twice", laid_buttress_edwards_twice), ("buttress/sha.begin", laid_buttress_sha_begin), ("buttress/sha.rest", laid_buttress_sha_rest)], narrowed := true }
def GrantEachUptoSaid : Prop := grantEachUptoRow.holds Tryz.pinned (OpenSpec.upto grantEachSpec)

/-- 'buttresslaw16.EvidenceGets', WHERE WHAT IT READS IS OF BULK AT MOST 1048576: true; the input reads as it did. -/
def evidenceGetsUptoRow : OpenClaim := { program := "ytnopjabcdloepaagreatdoor", sum := "e64ad84d1a8b0eae11396883b51ff8e224b21962188fc13859af8840996da795", func := "buttress/buttresslaw16.EvidenceGets", spec := "evidenceGets", inPlace := ["math/bits.Add64", "slices.overlaps[[]byte]", "math/bits.Sub64", "internal/bytealg.Compare"], unfollowed := true, recurses := true, named := ["buttress/sha.begin", "buttress/sha.rest", "buttress/edwards.curve", "buttress/edwards.twice"], apart := false, laid := [("buttress/edwards.curve", laid_buttress_edwards_curve), ("buttress/edwards.twice", laid_buttress_edwards_twice), ("buttress/sha.begin", laid_buttress_sha_begin), ("buttress/sha.rest", laid_buttress_sha_rest)], narrowed := true }
def EvidenceGetsUptoSaid : Prop := evidenceGetsUptoRow.holds Tryz.pinned (OpenSpec.upto evidenceGetsSpec)

/-- 'buttresslaw08.RecordBack', WHERE WHAT IT READS IS OF BULK AT MOST 1048576: true; the input reads as it did. -/
def recordBackUptoRow : OpenClaim := { program := "ytnopjabcdloepaagreatdoor", sum := "e64ad84d1a8b0eae11396883b51ff8e224b21962188fc13859af8840996da795", func := "buttress/buttresslaw08.RecordBack", spec := "recordBack", inPlace := ["math/bits.Add64", "slices.overlaps[[]byte]", "math/bits.Sub64"], unfollowed := true, recurses := true, named := ["buttress/sha.begin", "buttress/sha.rest", "buttress/edwards.curve", "buttress/edwards.twice"], apart := false, laid := [("buttress/edwards.curve", laid_buttress_edwards_curve), ("buttress/edwards.twice", laid_buttress_edwards_twice), ("buttress/sha.begin", laid_buttress_sha_begin), ("buttress/sha.rest", laid_buttress_sha_rest)], narrowed := true }
def RecordBackUptoSaid : Prop := recordBackUptoRow.holds Tryz.pinned (OpenSpec.upto recordBackSpec)

/-- 'buttresslaw29.BreakerForged', WHERE WHAT IT READS IS OF BULK AT MOST 1048576: true; the input reads as it did. -/
def breakerForgedUptoRow : OpenClaim := { program := "ytnopjabcdloepaagreatdoor", sum := "e64ad84d1a8b0eae11396883b51ff8e224b21962188fc13859af8840996da795", func := "buttress/buttresslaw29.BreakerForged", spec := "breakerForged", inPlace := ["math/bits.Add64", "slices.overlaps[[]byte]", "math/bits.Sub64"], unfollowed := true, recurses := true, named := ["buttress/sha.begin", "buttress/sha.rest", "buttress/edwards.curve", "buttress/edwards.twice"], apart := false, laid := [("buttress/edwards.curve", laid_buttress_edwards_curve), ("buttress/edwards.twice", laid_buttress_edwards_twice), ("buttress/sha.begin", laid_buttress_sha_begin), ("buttress/sha.rest", laid_buttress_sha_rest)], narrowed := true }
def BreakerForgedUptoSaid : Prop := breakerForgedUptoRow.holds Tryz.pinned (OpenSpec.upto breakerForgedSpec)

/-- 'buttresslaw29.BreakerClash', WHERE WHAT IT READS IS OF BULK AT MOST 1048576: true; the input reads as it did. -/
def breakerClashUptoRow : OpenClaim := { program := "ytnopjabcdloepaagreatdoor", sum := "e64ad84d1a8b0eae11396883b51ff8e224b21962188fc13859af8840996da795", func := "buttress/buttresslaw29.BreakerClash", spec := "breakerClash", inPlace := ["math/bits.Add64", "slices.overlaps[[]byte]", "math/bits.Sub64"], unfollowed := true, recurses := true, named := ["buttress/sha.begin", "buttress/sha.rest", "buttress/edwards.curve", "buttress/edwards.twice"], apart := false, laid := [("buttress/edwards.curve", laid_buttress_edwards_curve), ("buttress/edwards.twice", laid_buttress_edwards_twice), ("buttress/sha.begin", laid_buttress_sha_begin), ("buttress/sha.rest", laid_buttress_sha_rest)], narrowed := true }
def BreakerClashUptoSaid : Prop := breakerClashUptoRow.holds Tryz.pinned (OpenSpec.upto breakerClashSpec)

/-- 'buttresslaw29.BreakerTells', WHERE WHAT IT READS IS OF BULK AT MOST 1048576: true; the input reads as it did. -/
def breakerTellsUptoRow : OpenClaim := { program := "ytnopjabcdloepaagreatdoor", sum := "e64ad84d1a8b0eae11396883b51ff8e224b21962188fc13859af8840996da795", func := "buttress/buttresslaw29.BreakerTells", spec := "breakerTells", inPlace := ["math/bits.Add64", "slices.overlaps[[]byte]", "math/bits.Sub64"], unfollowed := true, recurses := true, named := ["buttress/sha.begin", "buttress/sha.rest", "buttress/edwards.curve", "buttress/edwards.twice"], apart := false, laid := [("buttress/edwards.curve", laid_buttress_edwards_curve), ("buttress/edwards.twice", laid_buttress_edwards_twice), ("buttress/sha.begin", laid_buttress_sha_begin), ("buttress/sha.rest", laid_buttress_sha_rest)], narrowed := true }
def BreakerTellsUptoSaid : Prop := breakerTellsUptoRow.holds Tryz.pinned (OpenSpec.upto breakerTellsSpec)

/-- 'buttresslaw29.BreakerHonest', WHERE WHAT IT READS IS OF BULK AT MOST 1048576: true; the input reads as it did. -/
def breakerHonestUptoRow : OpenClaim := { program := "ytnopjabcdloepaagreatdoor", sum := "e64ad84d1a8b0eae11396883b51ff8e224b21962188fc13859af8840996da795", func := "buttress/buttresslaw29.BreakerHonest", spec := "breakerHonest", inPlace := ["math/bits.Add64", "slices.overlaps[[]byte]", "math/bits.Sub64"], unfollowed := true, recurses := true, named := ["buttress/sha.begin", "buttress/sha.rest", "buttress/edwards.curve", "buttress/edwards.twice"], apart := false, laid := [("buttress/edwards.curve", laid_buttress_edwards_curve), ("buttress/edwards.twice", laid_buttress_edwards_twice), ("buttress/sha.begin", laid_buttress_sha_begin), ("buttress/sha.rest", laid_buttress_sha_rest)], narrowed := true }
def BreakerHonestUptoSaid : Prop := breakerHonestUptoRow.holds Tryz.pinned (OpenSpec.upto breakerHonestSpec)

/-- 'buttresslaw29.BreakerEnds', WHERE WHAT IT READS IS OF BULK AT MOST 1048576: true; the input reads as it did. -/
def breakerEndsUptoRow : OpenClaim := { program := "ytnopjabcdloepaagreatdoor", sum := "e64ad84d1a8b0eae11396883b51ff8e224b21962188fc13859af8840996da795", func := "buttress/buttresslaw29.BreakerEnds", spec := "breakerEnds", inPlace := ["math/bits.Add64", "slices.overlaps[[]byte]", "math/bits.Sub64"], unfollowed := true, recurses := true, named := ["buttress/sha.begin", "buttress/sha.rest", "buttress/edwards.curve", "buttress/edwards.twice"], apart := false, laid := [("buttress/edwards.curve", laid_buttress_edwards_curve), ("buttress/edwards.twice", laid_buttress_edwards_twice), ("buttress/sha.begin", laid_buttress_sha_begin), ("buttress/sha.rest", laid_buttress_sha_rest)], narrowed := true }
def BreakerEndsUptoSaid : Prop := breakerEndsUptoRow.holds Tryz.pinned (OpenSpec.upto breakerEndsSpec)

end Rows
end Go.Proofs.YtnopjabcdloepaaGreatDoor
