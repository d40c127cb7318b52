import Derived.Test.YtnopjabcdloepaaGreatDoorCb
import Derived.Below
import Derived.ChangeSame
import Derived.ProofKit
import Derived.Test.YtnopjabcdloepaaGreatDoorRows
import Derived.Test.YtnopjabcdloepaaGreatDoorCards
import Derived.Test.YtnopjabcdloepaaGreatDoorTie
import Derived.LaidMore
import Derived.ChangeSlices
import Derived.OpenShut
import Derived.Stop.Joined
import Derived.SevenTiedAt
namespace Go.Proofs.YtnopjabcdloepaaGreatDoor
open Go.RowKit Go.WideShapes Go.ChangeShapes
section
variable {H:Type} {enc:TypeId × Value→H} {P:Program}
theorem post_of_below {f:Func} {s:ChangeSpec} {apart fresh handsOn again:Bool} {W W':World} {args:Array Value} {v:Value} {ds gs:List (DataW H)} {before pa pv:List MemPlace}
  (hW:DataW.Whole enc P f.params.toList s.vars apart W args.toList ds gs before)
  (hres:∀ (b:Nat) (sp:Nat→Bool) (hd:Bool),DataW.TrodAll enc P W' b sp hd f.resultTypes.toList (v.resultList f.resultTypes.size) (s.fn H (ds++gs)).results [])
  (hargs:∀ sp:Nat→Bool,(∀ p∈before,sp p.block=true)→DataW.TrodAll enc P W' 0 sp true f.params.toList args.toList (s.fn H (ds++gs)).args pa)
  (hvars:∀ sp:Nat→Bool,(∀ p∈before,sp p.block=true)→DataW.TrodVars enc P W' sp s.vars (s.fn H (ds++gs)).vars pv)
  (hps:before=pa++pv) (hb:Below W.heap.size W W')
  (hok:∀ (j:Nat) (t:TypeId) (r:Value),f.resultTypes[j]?=some t→(v.resultList f.resultTypes.size)[j]?=some r→Value.okWide P W' .any 0 t r) :
  s.post enc P f apart fresh handsOn again W args v W':=by
 have hlt:∀ p∈before,p.block<W.heap.size:=fun p hp=>hW.lt p hp
 have hold:∀ p∈before,(fun b=>decide (b<W.heap.size)) p.block=true:=fun p hp=>by simpa using hlt p hp
 refine ⟨ds,gs,before,[],pa,pv,hW,hres _ _ _,hargs _ hold,hvars _ hold,World.keptBut_mono (fun p hp=>⟨hp,?_⟩) (hb.frame (· ∈ before)),fun _=>?_⟩
 ·rw [hps,List.mem_append] at hp
  exact Or.inr hp
 obtain ⟨_,_,_,_,_,hz,hn⟩:=hW
 refine ⟨hok,_,_,([]++pa)++pv,⟨[]++pa,pv,trodAll_append (hargs _ (fun _ _=>rfl)) (hres _ _ _),hvars _ (fun _ _=>rfl),rfl,?_,?_⟩,?_⟩
 ·intro b off hp
  have hin:MemPlace.cell b off∈before:=by rw [hps];simpa using hp
  rw [hb.frozen (hlt _ hin)]
  exact hz b off hin
 ·intro ha
  have:=hn ha
  rw [hps] at this
  simpa using this
 intro p hp _
 rw [hps]
 simpa using hp
end
end Go.Proofs.YtnopjabcdloepaaGreatDoor
namespace Go.Proofs.YtnopjabcdloepaaGreatDoor
open Go.ChangeShapes Go.WideShapes Go.ChangeAt Go.WideMaps Go.WideElems Go.RowKit
section
variable {H:Type} {enc:TypeId × Value→H} {P:Program} {w:World} {base:Nat} {spare:Nat→Bool} {held:Bool}
theorem trod_words {n:Nat} {t e:TypeId} {fuel:Nat} {cs:List Value} {L:List Int} {ps:List MemPlace} (ht:P.underlying t=some (.array n e)) (hu:P.underlying e=some (.int .u64)) (hce:P.cellsOf e=1) (hct:P.cellsOf t=n)
  (h:DataW.trod enc P w base spare held fuel t cs=some (.agg (L.map fun z=>.lit (.int .u64 z)),ps)):cs=L.map (.int .u64):=by
 obtain ⟨xs,m,_,hx,hl,hxl,hi⟩:=DataW.trod_array ht h
 injection hx with hx _
 injection hx with hx
 have hLl:L.length=n:=by have:=congrArg List.length hx;simp at this;omega
 rw [hct] at hl
 apply List.ext_getElem (by simp;omega)
 intro i h1 h2
 have h3:=hi i (by omega)
 rw [hce,Nat.mul_one,List.getElem?_eq_getElem (by omega)] at h3
 obtain ⟨z,e1,e2,_⟩:=DataW.trod_int hu h3
 have h4:cs[i]=.int .u64 z:=by
  have:=congrArg (fun l=>l[0]?) e1
  simp [List.getElem?_drop] at this
  rw [List.getElem?_eq_getElem h1] at this
  exact Option.some.inj this
 have h5:=congrArg (fun l=>l[i]?) hx
 simp only [List.getElem?_map,List.getElem?_eq_getElem (show i<L.length by omega),List.getElem?_eq_getElem (show i<xs.length by omega),Option.map_some,Option.some.injEq,e2] at h5
 injection h5 with h5
 injection h5 with _ h5
 rw [h4,List.getElem_map,h5]
end
theorem own_:ownKnob Tryz.prog.godebug=none:=by kernel_rfl
theorem u8_under:Tryz.prog.underlying 5=some (.int .u8):=by kernel_rfl
theorem bool_under:Tryz.prog.underlying 4=some .bool:=by kernel_rfl
def laidS:List (String × DataW Unit):=[("buttress/edwards.curve",Rows.laid_buttress_edwards_curve),("buttress/edwards.twice",Rows.laid_buttress_edwards_twice),("buttress/sha.begin",Rows.laid_buttress_sha_begin),("buttress/sha.rest",Rows.laid_buttress_sha_rest)]
theorem door_met (os:Os) (args:Array Value):laidMetH Tryz.prog laidS ((World.doorLaid Tryz.prog 400 os).forCall (fun _ _=>0) ⟨#[],args,[]⟩).memory :=
 laidMetH_of_parts3 (fuel:=8) (laidMet_of_run' 8 (by kernel_rfl) (by kernel_rfl)) (by kernel_rfl) (by kernel_rfl)
theorem of_laid {W:World} (h:laidMetH Tryz.prog laidS W):CvP W∧ShP W:=by
 rw [MakeChecks.laidMetH_plain _ _ _ (by kernel_rfl)] at h
 obtain ⟨ps,⟨g0,t0,cs0,f0,p0,q0,hg0,ht0,hv0,hd0,⟨g1,t1,cs1,f1,p1,q1,hg1,ht1,hv1,hd1,⟨g2,t2,cs2,f2,p2,q2,hg2,ht2,hv2,hd2,⟨g3,t3,cs3,f3,p3,q3,hg3,ht3,hv3,hd3,_,_⟩,_⟩,_⟩,_⟩,_,_⟩:=h
 obtain rfl:=Option.some.inj ((show Tryz.prog.globalNamed "buttress/edwards.curve" = some 0 by kernel_rfl).symm.trans hg0)
 obtain rfl:=Option.some.inj ((show Tryz.prog.globalNamed "buttress/edwards.twice" = some 2 by kernel_rfl).symm.trans hg1)
 obtain rfl:=Option.some.inj ((show Tryz.prog.globalNamed "buttress/sha.begin" = some 1 by kernel_rfl).symm.trans hg2)
 obtain rfl:=Option.some.inj ((show Tryz.prog.globalNamed "buttress/sha.rest" = some 3 by kernel_rfl).symm.trans hg3)
 obtain rfl:=Option.some.inj ((show (Tryz.prog.globals[0]?).map (·.type)=some 202 by kernel_rfl).symm.trans ht0)
 obtain rfl:=Option.some.inj ((show (Tryz.prog.globals[2]?).map (·.type)=some 202 by kernel_rfl).symm.trans ht1)
 obtain rfl:=Option.some.inj ((show (Tryz.prog.globals[1]?).map (·.type)=some 378 by kernel_rfl).symm.trans ht2)
 obtain rfl:=Option.some.inj ((show (Tryz.prog.globals[3]?).map (·.type)=some 418 by kernel_rfl).symm.trans ht3)
 have hu:Tryz.prog.underlying 200=some (.int .u64):=by kernel_rfl
 have hc:Tryz.prog.cellsOf 200=1:=by kernel_rfl
 have e0:=trod_words (L:=[929955233495203,466365720129213,1662059464998953,2033849074728123,1442794654840575]) (show Tryz.prog.underlying 202=some (.array 5 200) by kernel_rfl) hu hc (by kernel_rfl) hd0
 have e1:=trod_words (L:=[1859910466990425,932731440258426,1072319116312658,1815898335770999,633789495995903]) (show Tryz.prog.underlying 202=some (.array 5 200) by kernel_rfl) hu hc (by kernel_rfl) hd1
 have e2:=trod_words (L:=Sh.ivL) words_under hu hc (by kernel_rfl) hd2
 have e3:=trod_words (L:=Sh.kL) a80_under hu hc (by kernel_rfl) hd3
 have c0:=fun i=>World.var?_cell hg0 hv0 i
 have c1:=fun i=>World.var?_cell hg1 hv1 i
 have c2:=fun i=>World.var?_cell hg2 hv2 i
 have c3:=fun i=>World.var?_cell hg3 hv3 i
 obtain ⟨q0⟩:=cs0
 obtain ⟨q1⟩:=cs1
 obtain ⟨q2⟩:=cs2
 obtain ⟨q3⟩:=cs3
 simp only at e0 e1 e2 e3
 subst e0 e1 e2 e3
 have lt3:3<W.heap.size:=by
  have:=c3 0
  rcases Nat.lt_or_ge 3 W.heap.size with h | h
  ·exact h
  simp only [World.cell?,Array.getElem?_eq_none h] at this
  cases this
 refine ⟨⟨by omega,fun i _=>c0 i,fun i _=>c1 i⟩,lt3,fun i hi=>(c2 i).trans ?_,fun i hi=>(c3 i).trans ?_⟩
 ·have h8:Sh.ivL.length=8:=rfl
  unfold Sh.ivI
  rw [List.getElem?_toArray,List.getElem?_map,List.getElem?_eq_getElem (by omega),List.getD_eq_getElem?_getD,List.getElem?_eq_getElem (by omega)]
  rfl
 have h8:Sh.kL.length=80:=rfl
 unfold Sh.kI
 rw [List.getElem?_toArray,List.getElem?_map,List.getElem?_eq_getElem (by omega),List.getD_eq_getElem?_getD,List.getElem?_eq_getElem (by omega)]
 rfl
section
variable {H:Type} {enc:TypeId × Value→H} {W:World}
end
end Go.Proofs.YtnopjabcdloepaaGreatDoor
