import Derived.Test.YtgjffaoggjlamaaGreatDoorKl
import Derived.Deep.Slices
namespace Go.Proofs.YtgjffaoggjlamaaGreatDoor.Rc
open Go Go.ChangeShapes Go.WideShapes Go.ChangeAt Go.WideMaps Go.WideElems Go.RowKit
def VAt2 (w:World) (p:Option Addr) (n:Nat):Prop:=0<n→∃ g o,p=some ⟨g,o,none⟩∧g<w.heap.size∧∀ j,j<n→∃ q m d b,w.cell? ⟨g,o+j,none⟩=some (.slice q m d)∧Sc.Byt b∧BAt w q m b∧m≤d
section
variable {H:Type} {enc:TypeId × Value→H} {W:World} {base:Nat} {sp:Nat→Bool}
set_option maxRecDepth 100000 in
theorem open_bsf {fuel:Nat} {y:Value} {r:DataW H × List MemPlace} (hf:DataW.trod enc Tryz.prog W base sp true fuel 26 [y]=some r) :
  ∃ p n c b,y=.slice p n c∧(∀ j,0≤b j∧b j<256)∧BAt W p n b∧n≤c:=by
 rcases open_ints Go.Proofs.YtgjffaoggjlamaaGreatDoor.bs_underK Go.Proofs.YtgjffaoggjlamaaGreatDoor.u8_under Go.Proofs.YtgjffaoggjlamaaGreatDoor.u8_cells hf with ⟨hcs,hx⟩ | ⟨a,len',cap',zs,hcs,_,hl,hm,hz,hx,hcell,hwz⟩
 ·simp at hcs
  subst hcs
  exact ⟨none,0,0,fun _=>0,rfl,fun _=>⟨Int.le_refl _,show (0:Int)<256 by decide⟩,fun h=>absurd h (by decide),Nat.le_refl _⟩
 simp at hcs
 subst hcs
 have hlz:len'≤zs.length:=by rw [hz];split <;> omega
 refine ⟨some a,len',cap',fun j=>zs.getD j 0,rfl,fun j=>by
  have:=range_u8 hwz j
  show 0≤zs.getD j 0∧zs.getD j 0<256
  rw [List.getD_eq_getElem?_getD]
  omega,fun hpos=>?_,hl⟩
 obtain ⟨ab,ao,spot⟩:=a
 have hc1:=hcell 0 (by omega)
 have hspot:spot=none:=by simpa [Addr.add] using World.cell?_spot hc1
 subst hspot
 refine ⟨ab,ao,rfl,?_,fun j hj=>?_⟩
 ·rcases Nat.lt_or_ge ab W.heap.size with h | h
  ·exact h
  rw [add_o] at hc1
  simp only [World.cell?,Array.getElem?_eq_none h] at hc1
  cases hc1
 have:=hcell j (by omega)
 rwa [add_o] at this
set_option maxRecDepth 100000 in
theorem open_vs2 {r:Reach} {b0:Nat} {v:Value} {d:DataW H} {ps:List MemPlace} (hv:Value.okWide Tryz.prog W r b0 23 v) (h:DataW.Trod enc Tryz.prog W base sp true 23 v d ps) :
  ∃ p n c,v=.slice p n c∧VAt2 W p n:=by
 have vs_under:Tryz.prog.underlying 23=some (.slice 26):=by kernel_rfl
 obtain ⟨a1,len0,cap0,rfl⟩:=okWide_slice vs_under hv
 obtain ⟨fuel,hf⟩:=h
 rcases Deep.open_slice1 (e:=26) (by kernel_rfl) (by kernel_rfl) hf with ⟨hcs,_⟩ | ⟨a,len,cap,m,n,V,D,Pl,hcs,_,hl,_,hm,_,hc⟩
 ·simp [Value.cells] at hcs
  obtain ⟨rfl,rfl,rfl⟩:=hcs
  exact ⟨none,0,0,rfl,fun h=>absurd h (by decide)⟩
 simp [Value.cells] at hcs
 obtain ⟨rfl,rfl,rfl⟩:=hcs
 have hlm:len0≤m:=by rw [hm];split <;> omega
 refine ⟨some a,len0,cap0,rfl,fun h0=>?_⟩
 have h1:=(hc 0 (by omega)).1
 obtain ⟨ab,ao,spot⟩:=a
 have hspot:spot=none:=by simpa [Addr.add] using World.cell?_spot h1
 subst hspot
 refine ⟨ab,ao,rfl,?_,fun j hj=>?_⟩
 ·rcases Nat.lt_or_ge ab W.heap.size with h | h
  ·exact h
  rw [add_o] at h1
  simp only [World.cell?,Array.getElem?_eq_none h] at h1
  cases h1
 obtain ⟨k1,k2⟩:=hc j (by omega)
 obtain ⟨q,mm,dd,b,e,hb,hB,hcc⟩:=open_bsf k2
 rw [add_o,e] at k1
 exact ⟨q,mm,dd,b,k1,hb,hB,hcc⟩
theorem VAt2.ts {w:World} {p:Option Addr} {n:Nat} (h:VAt2 w p n):∃ T:List TxV,n=T.length∧(∀ x∈T,BR x.xs)∧TsAt w p T:=by
 by_cases h0:0<n
 ·obtain ⟨g,o,e,hg,hc⟩:=h h0
  have hx:∀ j,∃ x:TxV,j<n→w.cell? ⟨g,o+j,none⟩=some (.slice x.q x.xs.length x.c)∧BytesL w x.q x.xs∧x.xs.length≤x.c∧BR x.xs:=fun j=>by
   by_cases hj:j<n
   ·obtain ⟨q,m,d,b,h1,h2,h3,h4⟩:=hc j hj
    refine ⟨⟨q,d,fL m b⟩,fun _=>⟨by simp only [fL_len];exact h1,fun h0=>?_,by simp only [fL_len];exact h4,fL_br h2⟩⟩
    simp only [fL_len] at h0
    obtain ⟨g',o',e',hg',hc'⟩:=h3 h0
    exact ⟨g',o',e',hg',fun i hi=>by
     simp only [fL_len] at hi
     rw [hc' i hi]
     exact congrArg (fun z=>some (Value.int .u8 z)) (fL_get m b i hi).symm⟩
   exact ⟨⟨none,0,[]⟩,fun h=>absurd h hj⟩
  obtain ⟨f,hf⟩:=Classical.axiomOfChoice hx
  refine ⟨(List.range n).map f,by simp,fun x hx=>?_,fun _=>⟨g,o,e,hg,fun i x hi=>?_⟩⟩
  ·obtain ⟨j,hj,rfl⟩:=List.mem_map.1 hx
   exact (hf j (List.mem_range.1 hj)).2.2.2
  have hin:i<n:=by have:=(List.getElem?_eq_some_iff.1 hi).1;simpa using this
  rw [List.getElem?_map,List.getElem?_range hin] at hi
  obtain rfl:f i=x:=by simpa using hi
  exact ⟨(hf i hin).1,(hf i hin).2.1,(hf i hin).2.2.1⟩
 exact ⟨[],by simp;omega,(fun x (hx:x∈([]:List TxV))=>absurd hx (by simp)),(fun (h:0<([]:List TxV).length)=>absurd h (by decide))⟩
set_option maxRecDepth 100000 in
theorem open_ts {r:Reach} {b0:Nat} {v:Value} {d:DataW H} {ps:List MemPlace} (hv:Value.okWide Tryz.prog W r b0 23 v) (h:DataW.Trod enc Tryz.prog W base sp true 23 v d ps):∃ p n c T,v=.slice p n c∧n=T.length∧(∀ x∈T,BR x.xs)∧TsAt W p T:=by
 obtain ⟨p,n,c,e,hV⟩:=open_vs2 hv h
 obtain ⟨T,h1,h2,h3⟩:=hV.ts
 exact ⟨p,n,c,T,e,h1,h2,h3⟩
end
end Go.Proofs.YtgjffaoggjlamaaGreatDoor.Rc
namespace Go.Proofs.YtgjffaoggjlamaaGreatDoor
open Go.ChangeShapes Go.WideShapes Go.ChangeAt Go.WideMaps Go.WideElems Go.RowKit
set_option maxRecDepth 100000 in
theorem breakerTwo_lifted (os:Os) (started:os.Started) (H:Type) (enc:TypeId × Value→H) :
  ReturnsInHanded {} Tryz.checked os 12 .any (fun w args=>(Rows.breakerTwoSpec.pre enc Tryz.prog Tryz.f12 [] false w args∧laidMetH Tryz.prog laidS w)∧sizedMet enc Tryz.prog Tryz.f12 (OpenSpec.ofChange Rows.breakerTwoSpec) false w args)
   (Rows.breakerTwoSpec.post enc Tryz.prog Tryz.f12 false true false false):=by
 refine returnsInHanded_of_change_and (C:=Tryz.checked) (X:=fun w _=>laidMetH Tryz.prog laidS w) (fun _ _ _ hh h=>h.of_heap hh) own_ started (by kernel_rfl) Tryz.func12
  (ChangeSpec.witness_shaped (enc:=enc) (C:=Tryz.checked) (os:=os) (X:=fun w _=>laidMetH Tryz.prog laidS w) false (World.doorLaid Tryz.prog 400 os) #[.slice none 0 0] 8 rfl (World.shaped_of_RefB (by kernel_rfl) (by kernel_rfl)) (by kernel_rfl) (by kernel_rfl) (by kernel_rfl) (door_met os _)) ?_
 intro W base args ds gs before hval0 hW _ _ hL _
 have hval:∀ (j:Nat) t v,Tryz.f12.params[j]?=some t→args[j]?=some v→Value.okWide Tryz.prog W .any base t v:=hval0
 have hW':=hW
 obtain ⟨p,q,hA0,hV,rfl,hfz,hnd⟩:=hW
 have hA:DataW.TrodAll enc Tryz.prog W 0 (fun _=>true) true Tryz.f12.params.toList args.toList ds p:=hA0
 rw [Tryz.params12] at hA hval
 obtain ⟨v0,d0,rfl,rfl,h0⟩:=trodAll_one hA
 obtain ⟨rfl,rfl⟩:=trodVars_none hV
 have hv0:=hval 0 23 v0 rfl rfl
 clear hA0 hval0
 simp only [List.append_nil] at hW'
 obtain ⟨hCv,hS⟩:=of_laid hL
 have hlt:∀ x∈p,x.block<W.heap.size:=fun x hx=>hW'.lt x hx
 obtain ⟨a0,n0,c0,T0,rfl,hn0,hb0,hV0⟩:=Rc.open_ts hv0 h0
 clear hv0
 refine (Rc.two_c a0 n0 c0 T0 hn0 hb0 W hV0 hS hCv).mono fun e W' ⟨he,hb⟩=>?_
 subst he
 exact ⟨_,rfl,post_of_below (pa:=p) (pv:=[]) hW' (fun _ _ _=>trodAll_mk1 (shut_bool bool_under true))
  (fun sp hsp=>trodAll_mk1 (WideElems.Trod_stays (by kernel_rfl) (by kernel_rfl) (of_decide_eq_true (by kernel_rfl)) h0 (fun x hx=>hb.same (hlt x hx)) (fun x hx=>hsp x hx)))
  (fun _ _=>rfl) (by simp) hb
  (ok_one (by kernel_rfl) rfl (okWide_bool_mk bool_under true))⟩
theorem breakerTwo_row:Rows.BreakerTwoSaid :=
 OpenClaim.holds_of_wide 12 Tryz.f12 rfl rfl rfl rfl rfl rfl rfl ⟨rfl,rfl,rfl,rfl,rfl⟩ rfl rfl rfl rfl rfl (by kernel_rfl) Tryz.func12 (by kernel_rfl)
  (of_decide_eq_true (by kernel_rfl)) (by unfold Func.isWrapper;first | (rw [if_pos (by decide +kernel)];kernel_rfl) | (rw [if_neg (by decide +kernel)];exact ⟨rfl,rfl⟩))
  (fun os started H enc _=>breakerTwo_lifted os started H enc)
theorem breakerTwo_holds:Rows.BreakerTwoCardSaid :=
 Claim7.holds_tied_plain_at .later [] [.data,.data,.data,.data] true (true,"72087f2b6518ba3ca8f5a6e732784f24e9910f740a98764daa57a58567a5505c") true
  breakerTwo_row (fun _ h=>by cases h) (by kernel_rfl) (fun _ h=>by cases h) breakerTwo_row_tie rfl ⟨rfl,rfl⟩ (by kernel_rfl) rfl
  (fun f fn hf hfn=>by
   obtain rfl:f=12:=Option.some.inj ((show Tryz.prog.funcNamed "buttress/buttresslaw29.BreakerTwo" = some 12 by kernel_rfl).symm.trans hf) |>.symm
   obtain rfl:fn=Tryz.f12:=(Option.some.inj (Tryz.func12.symm.trans hfn)).symm
   exact ⟨by kernel_rfl,fun j t ht=>by
    rw [Tryz.params12] at ht
    have hm:t∈[23]:=by simpa using Array.mem_of_getElem? ht
    have hall:([23].all fun u => !Tryz.prog.wantsStandIn u)=true:=by kernel_rfl
    exact (show Tryz.prog.wantsStandIn t=false by simpa using List.all_eq_true.1 hall t hm)⟩)
  (by kernel_rfl)
end Go.Proofs.YtgjffaoggjlamaaGreatDoor
