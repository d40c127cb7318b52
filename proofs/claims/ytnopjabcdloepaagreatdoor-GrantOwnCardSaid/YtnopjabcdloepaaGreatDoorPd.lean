import Derived.Test.YtnopjabcdloepaaGreatDoorPc
import Derived.JoinedOf
namespace Go.Proofs.YtnopjabcdloepaaGreatDoor
open Go.ChangeShapes Go.WideShapes Go.ChangeAt Go.WideMaps Go.WideElems Go.RowKit
theorem gf25:(Tryz.prog.mayEnter:Bool)=true:=by kernel_rfl
theorem gf1:(laidOutB Tryz.prog:Bool)=true:=by kernel_rfl
theorem gf26:((Rows.grantOwnRow.lifted==Tryz.prog.liftsFinal):Bool)=true:=by kernel_rfl
theorem gf27:((Tryz.prog.make==some Rows.grantOwnRow.make):Bool)=true:=by kernel_rfl
theorem gf12:((Rows.grantOwnRow.named==Tryz.prog.varsNamed 5):Bool)=true:=by kernel_rfl
theorem gf9:((Rows.grantOwnRow.inPlace==Tryz.prog.inPlace 5):Bool)=true:=by kernel_rfl
theorem gf10:((Rows.grantOwnRow.unfollowed==Tryz.prog.unfollowed 5):Bool)=true:=by kernel_rfl
theorem gf11:((Rows.grantOwnRow.recurses==Tryz.prog.recurses 5):Bool)=true:=by kernel_rfl
theorem gf2:(mapsRowed Tryz.prog:Bool)=true:=by kernel_rfl
theorem gf22:((Rows.grantOwnRow.plainKeys==Tryz.prog.plainKeys):Bool)=true:=by kernel_rfl
theorem gf24:(Tryz.prog.stopsHeard:Bool)=true:=by kernel_rfl
theorem gf0:(Rows.grantOwnRow.wf (OpenSpec.ofChange Rows.grantOwnSpec):Bool)=true:=by kernel_rfl
theorem gf3:(Tryz.f5.params.all (Tryz.prog.readableRec ·):Bool)=true:=by kernel_rfl
theorem gf4:(namedTie Tryz.prog Rows.grantOwnRow.named Rows.grantOwnSpec.vars:Bool)=true:=by kernel_rfl
theorem gf5:((Rows.grantOwnRow.stops==[]):Bool)=true:=by kernel_rfl
theorem gf6:((Tryz.prog.stops==[]):Bool)=true:=by kernel_rfl
theorem gf7:((Rows.grantOwnRow.knobs==[]):Bool)=true:=by kernel_rfl
theorem gf8:((Tryz.prog.stopKnobs==[]):Bool)=true:=by kernel_rfl
theorem gf13:((Rows.grantOwnRow.maps==(Tryz.f5.params.toList++Rows.grantOwnSpec.plain.varTypes Tryz.prog).any (Tryz.prog.mapsRec ·)):Bool)=true:=by kernel_rfl
theorem gf14:((Rows.grantOwnRow.ifaces==(Tryz.f5.params.toList++Rows.grantOwnSpec.plain.varTypes Tryz.prog).any (Tryz.prog.ifacesRec ·)):Bool)=true:=by kernel_rfl
theorem gf15:((Rows.grantOwnRow.mapsOut==Tryz.prog.mapsAmong Tryz.f5.resultTypes.toList):Bool)=true:=by kernel_rfl
theorem gf16:((Rows.grantOwnRow.loops==(Tryz.f5.params.toList++Rows.grantOwnSpec.plain.varTypes Tryz.prog).any (Tryz.prog.loopsFrom ·)):Bool)=true:=by kernel_rfl
theorem gf17:((Rows.grantOwnRow.wideKeys==(Tryz.f5.params.toList++Rows.grantOwnSpec.plain.varTypes Tryz.prog++Tryz.f5.resultTypes.toList).any (Tryz.prog.wideKeysFrom ·)):Bool)=true:=by kernel_rfl
theorem gf18:(Rows.grantOwnSpec.vars.all (Tryz.prog.varReadable ·):Bool)=true:=by kernel_rfl
theorem gf19:(Tryz.f5.resultTypes.all (fun t=>Tryz.prog.readableRec t&&decide (t<Tryz.prog.types.size)):Bool)=true:=by kernel_rfl
theorem gf20:((Rows.grantOwnRow.ifacesOut==Tryz.f5.resultTypes.toList.any (Tryz.prog.ifacesRec ·)):Bool)=true:=by kernel_rfl
theorem gf21:((Rows.grantOwnRow.loopsOut==Tryz.f5.resultTypes.toList.any (Tryz.prog.loopsFrom ·)):Bool)=true:=by kernel_rfl
theorem gf23:(Rows.grantOwnRow.shortTexts.isNone:Bool)=true:=by kernel_rfl
theorem gf28:((Rows.grantOwnRow.kinds==(if Rows.grantOwnRow.domain.isEmpty then [] else Tryz.f5.params.toList.map fun t=>match Tryz.prog.underlying t with | some (.int k)=>some k | _=>none)):Bool)=true:=by kernel_rfl
theorem gf29:((Rows.grantOwnRow.pinned==Rows.grantOwnRow.pinnedBy):Bool)=true:=by kernel_rfl
theorem gf30:((Rows.grantOwnRow.veiled==(Tryz.f5.params.toList++Rows.grantOwnSpec.plain.varTypes Tryz.prog++Tryz.f5.resultTypes.toList).any (Tryz.prog.veiledRec ·)):Bool)=true:=by kernel_rfl
theorem gf31:(Rows.grantOwnRow.veiledFits Tryz.prog Tryz.f5.params.toList (Tryz.f5.params.toList++Rows.grantOwnSpec.plain.varTypes Tryz.prog++Tryz.f5.resultTypes.toList):Bool)=true:=by kernel_rfl
theorem and_t {a b:Bool} (h:a=true) (k:b=true):(a&&b)=true:=by rw [h,k];rfl
set_option maxRecDepth 100000 in
theorem gfc:joinedFacts Tryz.prog 5 Tryz.f5 Rows.grantOwnSpec Rows.grantOwnRow=true:=by
 unfold joinedFacts
 exact and_t (and_t (and_t (and_t (and_t (and_t (and_t (and_t (and_t (and_t (and_t (and_t (and_t (and_t (and_t (and_t (and_t (and_t (and_t (and_t (and_t (and_t (and_t (and_t (and_t (and_t (and_t (and_t (and_t (and_t (and_t (gf0) gf1) gf2) gf3) gf4) gf5) gf6) gf7) gf8) gf9) gf10) gf11) gf12) gf13) gf14) gf15) gf16) gf17) gf18) gf19) gf20) gf21) gf22) gf23) gf24) gf25) gf26) gf27) gf28) gf29) gf30) gf31
theorem grantOwn_row:Rows.GrantOwnSaid :=
 OpenClaim.holds_of_wide 5 Tryz.f5 rfl rfl rfl rfl rfl rfl rfl ⟨rfl,rfl,rfl,rfl,rfl⟩ rfl rfl rfl rfl rfl (by kernel_rfl) Tryz.func5 gfc
  (of_decide_eq_true (by kernel_rfl)) (by unfold Func.isWrapper;first | (rw [if_pos (by decide +kernel)];kernel_rfl) | (rw [if_neg (by decide +kernel)];exact ⟨rfl,rfl⟩))
  (fun os started H enc _=>grantOwn_lifted os started H enc)
end Go.Proofs.YtnopjabcdloepaaGreatDoor
