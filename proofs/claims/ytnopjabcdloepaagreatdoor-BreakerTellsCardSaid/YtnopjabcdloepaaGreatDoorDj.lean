import Derived.Test.YtnopjabcdloepaaGreatDoorDi
namespace Go.Proofs.YtnopjabcdloepaaGreatDoor
theorem bg1:false=Rows.breakerTellsRow.goesBy Tryz.prog:=by kernel_rfl
theorem bg2:true=Tryz.prog.looks []:=by kernel_rfl
theorem bg3:Tryz.prog.mainIs=some (true,"3b6ded8c326ffae4bd1903d9d2d419bc4a5454305edc1a23bf4cc2aef8267a35".toList):=by kernel_rfl
theorem bg4:([66,66].all fun u => !Tryz.prog.wantsStandIn u)=true:=by kernel_rfl
theorem bg5:Tryz.prog.funcNamed "buttress/buttresslaw29.BreakerTells" = some 12:=by kernel_rfl
theorem bg6:Rows.breakerTellsRow.wfByText (OpenSpec.ofChange Rows.breakerTellsSpec)=true:=by kernel_rfl
theorem breakerTells_holds:Rows.BreakerTellsCardSaid :=
 Claim7.holds_tied_plain_at .later [] [.data,.data,.data,.data] true (true,"3b6ded8c326ffae4bd1903d9d2d419bc4a5454305edc1a23bf4cc2aef8267a35") true
  btr (fun _ h=>by cases h) bg6 (fun _ h=>by cases h) breakerTells_row_tie rfl ⟨rfl,rfl⟩ bg3 rfl
  (fun f fn hf hfn=>by
   obtain rfl:f=12:=Option.some.inj (bg5.symm.trans hf) |>.symm
   obtain rfl:fn=Tryz.f12:=(Option.some.inj (Tryz.func12.symm.trans hfn)).symm
   exact ⟨bg2,fun j t ht=>by
    rw [Tryz.params12] at ht
    have hm:t∈[66,66]:=by simpa using Array.mem_of_getElem? ht
    exact (show Tryz.prog.wantsStandIn t=false by simpa using List.all_eq_true.1 bg4 t hm)⟩)
  bg1
end Go.Proofs.YtnopjabcdloepaaGreatDoor
