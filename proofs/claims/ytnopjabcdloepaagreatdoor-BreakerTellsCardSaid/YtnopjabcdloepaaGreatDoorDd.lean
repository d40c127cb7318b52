import Derived.Test.YtnopjabcdloepaaGreatDoorDb
namespace Go.Proofs.YtnopjabcdloepaaGreatDoor
open Go.ChangeShapes Go.WideShapes Go.ChangeAt Go.WideMaps Go.WideElems Go.RowKit
set_option maxRecDepth 100000 in
theorem btl (os:Os) (started:os.Started) (H:Type) (enc:TypeId × Value→H) :
  ReturnsInHanded {} Tryz.checked os 12 .any (fun w args=>(Rows.breakerTellsSpec.pre enc Tryz.prog Tryz.f12 [] false w args∧laidMetH Tryz.prog laidS w)∧sizedMet enc Tryz.prog Tryz.f12 (OpenSpec.ofChange Rows.breakerTellsSpec) false w args)
   (Rows.breakerTellsSpec.post enc Tryz.prog Tryz.f12 false true false false):=by
 refine returnsInHanded_of_change_and (C:=Tryz.checked) (X:=fun w _=>laidMetH Tryz.prog laidS w) (fun _ _ _ hh h=>h.of_heap hh) own_ started (by kernel_rfl) Tryz.func12
  (ChangeSpec.witness_shaped (enc:=enc) (C:=Tryz.checked) (os:=os) (X:=fun w _=>laidMetH Tryz.prog laidS w) false (World.doorLaid Tryz.prog 400 os) #[.slice none 0 0,.slice none 0 0] 8 rfl (World.shaped_of_RefB (by kernel_rfl) (by kernel_rfl)) (by kernel_rfl) (by kernel_rfl) (by kernel_rfl) (door_met os _)) ?_
 intro W base args ds gs before hval0 hW _ _ hL _
 have hval:∀ (j:Nat) t v,Tryz.f12.params[j]?=some t→args[j]?=some v→Value.okWide Tryz.prog W .any base t v:=hval0
 have hW':=hW
 obtain ⟨p,q,hA0,hV,rfl,hfz,hnd⟩:=hW
 have hA:DataW.TrodAll enc Tryz.prog W 0 (fun _=>true) true Tryz.f12.params.toList args.toList ds p:=hA0
 rw [Tryz.params12] at hA hval
 obtain ⟨v0,v1,d0,d1,q0,q1,rfl,rfl,rfl,h0,h1⟩:=trodAll_two hA
 obtain ⟨rfl,rfl⟩:=trodVars_none hV
 have hv0:=hval 0 66 v0 rfl rfl
 have hv1:=hval 1 66 v1 rfl rfl
 clear hA0 hval0
 simp only [List.append_nil] at hW'
 obtain ⟨hCv,hS⟩:=of_laid hL
 have hlt:∀ x∈q0++q1,x.block<W.heap.size:=fun x hx=>hW'.lt x hx
 obtain ⟨a0,c0,L0,rfl,hc0,hR0,hb0⟩:=Rc.arg_recs hv0 h0
 obtain ⟨a1,c1,L1,rfl,hc1,hR1,hb1⟩:=Rc.arg_recs hv1 h1
 clear hv0 hv1
 refine (Rc.tells_c a0 L0.length c0 L0 a1 L1.length c1 L1 rfl rfl hb0 hb1 W hR0 hR1 hS hCv).mono fun e W' ⟨he,hb⟩=>?_
 subst he
 exact ⟨_,rfl,post_of_below (pa:=q0++q1) (pv:=[]) hW' (fun _ _ _=>trodAll_mk1 (shut_bool bool_under true))
  (fun sp hsp=>⟨q0,q1,WideElems.Trod_stays (by kernel_rfl) (by kernel_rfl) (of_decide_eq_true (by kernel_rfl)) h0 (fun x hx=>hb.same (hlt x (by simp [hx]))) (fun x hx=>hsp x (by simp [hx])),⟨q1,[],WideElems.Trod_stays (by kernel_rfl) (by kernel_rfl) (of_decide_eq_true (by kernel_rfl)) h1 (fun x hx=>hb.same (hlt x (by simp [hx]))) (fun x hx=>hsp x (by simp [hx])),rfl,by simp⟩,by simp⟩)
  (fun _ _=>rfl) (by simp) hb
  (ok_one (by kernel_rfl) rfl (okWide_bool_mk bool_under true))⟩
end Go.Proofs.YtnopjabcdloepaaGreatDoor
