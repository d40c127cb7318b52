/-
  No cell of these rows narrows 'for every input' (looked for: loops, veiled, ifaces, maps, wideKeys, modest, calm, conditions, laid).
  DERIVED. THE GIVEN ROWS OF THIS SEAT. 3 by the template 'for every input the law returns true; each argument reads behind the call as it read before'; 0 by the template 'total and deterministic' (their statements: YtdgaoljobpneaaaTotals.lean).
  GIVEN WITH THE SEED: the statements are not yours to turn. If you find one false, say at which input.
  Laid BY PROGRAM, IN A SANDBOX (cutbox-rows.mjs): the forced cells as the released guide's own fill.sh prints them over the translation 2e972ec120b3a3b3… (all of the seat's roots in one cut). By AI agents, Wed Nov 11 2026. No macro, syntax, notation, axiom, sorry.
-/
import Derived.Test.YtdgaoljobpneaaaChecked
import GoSem.Claim
import GoSem.ClaimJoined
import GoSem.ClaimMapViews
import Derived.JoinedTies
import Derived.KernelRfl
namespace Go.Proofs.Ytdgaoljobpneaaa
/- THE CELL 'sum', in the pinned program and in every row, IS THE sha256 OF THE DUMP (.gsa) THAT YtdgaoljobpneaaaProg.lean LOADS. Nothing in Lean hashes anything: it is a label: what it is worth is what the hold of that sum in a sandbox is worth. -/
noncomputable def Try.pinned : Pinned := { name := "ytdgaoljobpneaaa", sum := "2e972ec120b3a3b3cd303dcd14d1ad4c4db6dad941aeb75615eeadf359722670", checked := Try.checked }
namespace Rows
def none {H : Type} : Left H := { results := [], args := [] }

/-- 'buttresslaw28.GhostNil': WHATEVER THE INPUT: true; the input reads as it did. -/
def ghostNilSpec : ChangeSpec := { name := "ghostNil", fn := fun _ => fun
  | [d1, d2] => { results := [.lit (.bool true)], args := [d1, d2] }
  | _ => none }
def ghostNilRow : OpenClaim := { program := "ytdgaoljobpneaaa", sum := "2e972ec120b3a3b3cd303dcd14d1ad4c4db6dad941aeb75615eeadf359722670", func := "buttress/buttresslaw28.GhostNil", spec := "ghostNil", unfollowed := true, recurses := true, apart := false }
def GhostNilSaid : Prop := ghostNilRow.holds Try.pinned (OpenSpec.ofChange ghostNilSpec)

/-- ITS FALSE NEIGHBOUR: 'it returns false'. Refute it at one input. -/
def ghostNilWrong : ChangeSpec := { name := "ghostNil", fn := fun _ => fun
  | [d1, d2] => { results := [.lit (.bool false)], args := [d1, d2] }
  | _ => none }
def GhostNilWrongFalsely : Prop := ghostNilRow.holds Try.pinned (OpenSpec.ofChange ghostNilWrong)

/-- 'buttresslaw28.GhostKeeps': WHATEVER THE INPUT: true; the input reads as it did. -/
def ghostKeepsSpec : ChangeSpec := { name := "ghostKeeps", fn := fun _ => fun
  | [d1, d2, d3] => { results := [.lit (.bool true)], args := [d1, d2, d3] }
  | _ => none }
def ghostKeepsRow : OpenClaim := { program := "ytdgaoljobpneaaa", sum := "2e972ec120b3a3b3cd303dcd14d1ad4c4db6dad941aeb75615eeadf359722670", func := "buttress/buttresslaw28.GhostKeeps", spec := "ghostKeeps", unfollowed := true, recurses := true, apart := false }
def GhostKeepsSaid : Prop := ghostKeepsRow.holds Try.pinned (OpenSpec.ofChange ghostKeepsSpec)

/-- ITS FALSE NEIGHBOUR: 'it returns false'. Refute it at one input. -/
def ghostKeepsWrong : ChangeSpec := { name := "ghostKeeps", fn := fun _ => fun
  | [d1, d2, d3] => { results := [.lit (.bool false)], args := [d1, d2, d3] }
  | _ => none }
def GhostKeepsWrongFalsely : Prop := ghostKeepsRow.holds Try.pinned (OpenSpec.ofChange ghostKeepsWrong)

/-- 'buttresslaw08.RecordGets': WHATEVER THE INPUT: true; the input reads as it did. -/
def recordGetsSpec : ChangeSpec := { name := "recordGets", fn := fun _ => fun
  | [d1, d2, d3, d4, d5] => { results := [.lit (.bool true)], args := [d1, d2, d3, d4, d5] }
  | _ => none }
def recordGetsRow : OpenClaim := { program := "ytdgaoljobpneaaa", sum := "2e972ec120b3a3b3cd303dcd14d1ad4c4db6dad941aeb75615eeadf359722670", func := "buttress/buttresslaw08.RecordGets", spec := "recordGets", unfollowed := true, recurses := true, apart := false }
def RecordGetsSaid : Prop := recordGetsRow.holds Try.pinned (OpenSpec.ofChange recordGetsSpec)

/-- ITS FALSE NEIGHBOUR: 'it returns false'. Refute it at one input. -/
def recordGetsWrong : ChangeSpec := { name := "recordGets", fn := fun _ => fun
  | [d1, d2, d3, d4, d5] => { results := [.lit (.bool false)], args := [d1, d2, d3, d4, d5] }
  | _ => none }
def RecordGetsWrongFalsely : Prop := recordGetsRow.holds Try.pinned (OpenSpec.ofChange recordGetsWrong)

/- THE SECOND FORM. 'bulk': how many values and letters a reading holds, each counted each time it is reached (what is shared counts as often as it is met; a slice's spare places count too). A statement '..UptoSaid' is the law's where the arguments, and the package variables that the reading takes, are together of bulk at most 1048576: NARROWER than '..Said'. Prove '..Said' where nothing that the law and all that it calls make is longer than what came in: it says more and counts as full. Else prove '..UptoSaid'. A law counts once. -/
mutual
def uptoBulk {H : Type} : DataW H → Nat
  | .lit (.string bytes) => bytes.length + 1
  | .lit _ => 1
  | .nil => 1
  | .ptr d => uptoBulk d + 1
  | .slice elems spare => uptoBulkAll elems + uptoBulkAll spare + 1
  | .agg parts => uptoBulkAll parts + 1
  | .iface _ d => uptoBulk d + 1
  | .map entries => uptoBulkEntries entries + 1
  | .held _ => 1
def uptoBulkAll {H : Type} : List (DataW H) → Nat
  | [] => 0
  | d :: r => uptoBulk d + uptoBulkAll r
def uptoBulkEntries {H : Type} : List (Lit × DataW H) → Nat
  | [] => 0
  | x :: r => uptoBulkEntry x + uptoBulkEntries r
def uptoBulkEntry {H : Type} : Lit × DataW H → Nat
  | (.string bytes, d) => bytes.length + uptoBulk d + 1
  | (_, d) => uptoBulk d + 1
 end
def uptoSmall : (H : Type) → List (DataW H) → Bool := fun _ ds => decide (uptoBulkAll ds ≤ 1048576)
def OpenSpec.upto (s : _root_.Go.ChangeSpec) : _root_.Go.OpenSpec := { _root_.Go.OpenSpec.ofChange s with cond := some uptoSmall }

/-- 'buttresslaw28.GhostNil', WHERE WHAT IT READS IS OF BULK AT MOST 1048576: true; the input reads as it did. -/
def ghostNilUptoRow : OpenClaim := { program := "ytdgaoljobpneaaa", sum := "2e972ec120b3a3b3cd303dcd14d1ad4c4db6dad941aeb75615eeadf359722670", func := "buttress/buttresslaw28.GhostNil", spec := "ghostNil", unfollowed := true, recurses := true, apart := false, narrowed := true }
def GhostNilUptoSaid : Prop := ghostNilUptoRow.holds Try.pinned (OpenSpec.upto ghostNilSpec)

/-- 'buttresslaw28.GhostKeeps', WHERE WHAT IT READS IS OF BULK AT MOST 1048576: true; the input reads as it did. -/
def ghostKeepsUptoRow : OpenClaim := { program := "ytdgaoljobpneaaa", sum := "2e972ec120b3a3b3cd303dcd14d1ad4c4db6dad941aeb75615eeadf359722670", func := "buttress/buttresslaw28.GhostKeeps", spec := "ghostKeeps", unfollowed := true, recurses := true, apart := false, narrowed := true }
def GhostKeepsUptoSaid : Prop := ghostKeepsUptoRow.holds Try.pinned (OpenSpec.upto ghostKeepsSpec)

/-- 'buttresslaw08.RecordGets', WHERE WHAT IT READS IS OF BULK AT MOST 1048576: true; the input reads as it did. -/
def recordGetsUptoRow : OpenClaim := { program := "ytdgaoljobpneaaa", sum := "2e972ec120b3a3b3cd303dcd14d1ad4c4db6dad941aeb75615eeadf359722670", func := "buttress/buttresslaw08.RecordGets", spec := "recordGets", unfollowed := true, recurses := true, apart := false, narrowed := true }
def RecordGetsUptoSaid : Prop := recordGetsUptoRow.holds Try.pinned (OpenSpec.upto recordGetsSpec)

end Rows
end Go.Proofs.Ytdgaoljobpneaaa
