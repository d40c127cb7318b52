import Derived.Test.YtnopjabcdloepaaGreatDoorDd
namespace Go.Proofs.YtnopjabcdloepaaGreatDoor
theorem bf25:Tryz.prog.mayEnter=true:=by kernel_rfl
theorem bf1:laidOutB Tryz.prog=true:=by kernel_rfl
theorem bf26:(Rows.breakerTellsRow.lifted==Tryz.prog.liftsFinal)=true:=by kernel_rfl
theorem bf27:(Tryz.prog.make==some Rows.breakerTellsRow.make)=true:=by kernel_rfl
theorem bf12:(Rows.breakerTellsRow.named==Tryz.prog.varsNamed 12)=true:=by kernel_rfl
theorem bf9:(Rows.breakerTellsRow.inPlace==Tryz.prog.inPlace 12)=true:=by kernel_rfl
theorem bf10:(Rows.breakerTellsRow.unfollowed==Tryz.prog.unfollowed 12)=true:=by kernel_rfl
theorem bf11:(Rows.breakerTellsRow.recurses==Tryz.prog.recurses 12)=true:=by kernel_rfl
theorem bf2:mapsRowed Tryz.prog=true:=by kernel_rfl
theorem bf22:(Rows.breakerTellsRow.plainKeys==Tryz.prog.plainKeys)=true:=by kernel_rfl
theorem bf24:Tryz.prog.stopsHeard=true:=by kernel_rfl
theorem bf0:Rows.breakerTellsRow.wf (OpenSpec.ofChange Rows.breakerTellsSpec)=true:=by kernel_rfl
theorem bf3:Tryz.f12.params.all (Tryz.prog.readableRec ·)=true:=by kernel_rfl
theorem bf4:namedTie Tryz.prog Rows.breakerTellsRow.named Rows.breakerTellsSpec.vars=true:=by kernel_rfl
theorem bf5:(Rows.breakerTellsRow.stops==[])=true:=by kernel_rfl
theorem bf6:(Tryz.prog.stops==[])=true:=by kernel_rfl
theorem bf7:(Rows.breakerTellsRow.knobs==[])=true:=by kernel_rfl
theorem bf8:(Tryz.prog.stopKnobs==[])=true:=by kernel_rfl
theorem bf13:(Rows.breakerTellsRow.maps==(Tryz.f12.params.toList++Rows.breakerTellsSpec.plain.varTypes Tryz.prog).any (Tryz.prog.mapsRec ·))=true:=by kernel_rfl
theorem bf14:(Rows.breakerTellsRow.ifaces==(Tryz.f12.params.toList++Rows.breakerTellsSpec.plain.varTypes Tryz.prog).any (Tryz.prog.ifacesRec ·))=true:=by kernel_rfl
theorem bf15:(Rows.breakerTellsRow.mapsOut==Tryz.prog.mapsAmong Tryz.f12.resultTypes.toList)=true:=by kernel_rfl
theorem bf16:(Rows.breakerTellsRow.loops==(Tryz.f12.params.toList++Rows.breakerTellsSpec.plain.varTypes Tryz.prog).any (Tryz.prog.loopsFrom ·))=true:=by kernel_rfl
theorem bf17:(Rows.breakerTellsRow.wideKeys==(Tryz.f12.params.toList++Rows.breakerTellsSpec.plain.varTypes Tryz.prog++Tryz.f12.resultTypes.toList).any (Tryz.prog.wideKeysFrom ·))=true:=by kernel_rfl
theorem bf18:Rows.breakerTellsSpec.vars.all (Tryz.prog.varReadable ·)=true:=by kernel_rfl
theorem bf19:Tryz.f12.resultTypes.all (fun t=>Tryz.prog.readableRec t&&decide (t<Tryz.prog.types.size))=true:=by kernel_rfl
theorem bf20:(Rows.breakerTellsRow.ifacesOut==Tryz.f12.resultTypes.toList.any (Tryz.prog.ifacesRec ·))=true:=by kernel_rfl
theorem bf21:(Rows.breakerTellsRow.loopsOut==Tryz.f12.resultTypes.toList.any (Tryz.prog.loopsFrom ·))=true:=by kernel_rfl
theorem bf23:Rows.breakerTellsRow.shortTexts.isNone=true:=by kernel_rfl
theorem bf28:(Rows.breakerTellsRow.kinds==(if Rows.breakerTellsRow.domain.isEmpty then [] else Tryz.f12.params.toList.map fun t=>match Tryz.prog.underlying t with | some (.int k)=>some k | _=>none))=true:=by kernel_rfl
theorem bf29:(Rows.breakerTellsRow.pinned==Rows.breakerTellsRow.pinnedBy)=true:=by kernel_rfl
theorem bf30:(Rows.breakerTellsRow.veiled==(Tryz.f12.params.toList++Rows.breakerTellsSpec.plain.varTypes Tryz.prog++Tryz.f12.resultTypes.toList).any (Tryz.prog.veiledRec ·))=true:=by kernel_rfl
theorem bf31:Rows.breakerTellsRow.veiledFits Tryz.prog Tryz.f12.params.toList (Tryz.f12.params.toList++Rows.breakerTellsSpec.plain.varTypes Tryz.prog++Tryz.f12.resultTypes.toList)=true:=by kernel_rfl
theorem and_t {a b:Bool} (h:a=true) (k:b=true):(a&&b)=true:=by rw [h,k];rfl
set_option maxRecDepth 100000 in
theorem bfc:joinedFacts Tryz.prog 12 Tryz.f12 Rows.breakerTellsSpec Rows.breakerTellsRow=true:=by
 unfold joinedFacts
 exact and_t (and_t (and_t (and_t (and_t (and_t (and_t (and_t (and_t (and_t (and_t (and_t (and_t (and_t (and_t (and_t (and_t (and_t (and_t (and_t (and_t (and_t (and_t (and_t (and_t (and_t (and_t (and_t (and_t (and_t (and_t (bf0) bf1) bf2) bf3) bf4) bf5) bf6) bf7) bf8) bf9) bf10) bf11) bf12) bf13) bf14) bf15) bf16) bf17) bf18) bf19) bf20) bf21) bf22) bf23) bf24) bf25) bf26) bf27) bf28) bf29) bf30) bf31
theorem btr:Rows.BreakerTellsSaid :=
 OpenClaim.holds_of_wide 12 Tryz.f12 rfl rfl rfl rfl rfl rfl rfl ⟨rfl,rfl,rfl,rfl,rfl⟩ rfl rfl rfl rfl rfl (by kernel_rfl) Tryz.func12 bfc
  (of_decide_eq_true (by kernel_rfl)) (by unfold Func.isWrapper;first | (rw [if_pos (by decide +kernel)];kernel_rfl) | (rw [if_neg (by decide +kernel)];exact ⟨rfl,rfl⟩))
  (fun os started H enc _=>btl os started H enc)
end Go.Proofs.YtnopjabcdloepaaGreatDoor
