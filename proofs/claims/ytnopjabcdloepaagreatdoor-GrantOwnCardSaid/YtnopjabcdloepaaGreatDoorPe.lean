import Derived.Test.YtnopjabcdloepaaGreatDoorPd
namespace Go.Proofs.YtnopjabcdloepaaGreatDoor
open Go.ChangeShapes Go.WideShapes Go.ChangeAt Go.WideMaps Go.WideElems Go.RowKit
theorem grantOwn_g1:false=Rows.grantOwnRow.goesBy Tryz.prog:=by kernel_rfl
theorem grantOwn_g2:true=Tryz.prog.looks []:=by kernel_rfl
theorem grantOwn_g3:Tryz.prog.mainIs=some (true,"3b6ded8c326ffae4bd1903d9d2d419bc4a5454305edc1a23bf4cc2aef8267a35".toList):=by kernel_rfl
theorem grantOwn_g4:([22,45,9,3].all fun u => !Tryz.prog.wantsStandIn u)=true:=by kernel_rfl
theorem grantOwn_g5:Tryz.prog.funcNamed "buttress/buttresslaw10.GrantOwn" = some 5:=by kernel_rfl
theorem grantOwn_g6:Rows.grantOwnRow.wfByText (OpenSpec.ofChange Rows.grantOwnSpec)=true:=by kernel_rfl
theorem grantOwn_holds:Rows.GrantOwnCardSaid :=
 Claim7.holds_tied_plain_at .later [] [.data,.data,.data,.data] true (true,"3b6ded8c326ffae4bd1903d9d2d419bc4a5454305edc1a23bf4cc2aef8267a35") true
  grantOwn_row (fun _ h=>by cases h) grantOwn_g6 (fun _ h=>by cases h) grantOwn_row_tie rfl ⟨rfl,rfl⟩ grantOwn_g3 rfl
  (fun f fn hf hfn=>by
   obtain rfl:f=5:=Option.some.inj (grantOwn_g5.symm.trans hf) |>.symm
   obtain rfl:fn=Tryz.f5:=(Option.some.inj (Tryz.func5.symm.trans hfn)).symm
   exact ⟨grantOwn_g2,fun j t ht=>by
    rw [Tryz.params5] at ht
    have hm:t∈[22,45,9,3]:=by simpa using Array.mem_of_getElem? ht
    exact (show Tryz.prog.wantsStandIn t=false by simpa using List.all_eq_true.1 grantOwn_g4 t hm)⟩)
  grantOwn_g1
end Go.Proofs.YtnopjabcdloepaaGreatDoor
