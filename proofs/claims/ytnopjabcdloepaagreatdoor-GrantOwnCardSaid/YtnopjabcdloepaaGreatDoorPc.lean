import Derived.Test.YtnopjabcdloepaaGreatDoorKi
import Derived.Test.YtnopjabcdloepaaGreatDoorCv
import Derived.ChangeSlices
import Derived.Deep.SlicePairs
import Derived.OpenShut
import Derived.Carry
import Derived.SizedLaws
import Derived.Test.YtnopjabcdloepaaGreatDoorRows
import Derived.Test.YtnopjabcdloepaaGreatDoorCards
import Derived.Test.YtnopjabcdloepaaGreatDoorTie
import Derived.Test.YtnopjabcdloepaaGreatDoorPb
namespace Go.Proofs.YtnopjabcdloepaaGreatDoor.Rc
open Go Go.ChangeShapes Go.WideShapes Go.ChangeAt Go.RowKit
theorem cell_lt {w:World} {a:Addr} {v:Value} (h:w.cell? a=some v):a.block<w.heap.size:=by
 rcases Nat.lt_or_ge a.block w.heap.size with hl | hl
 ·exact hl
 unfold World.cell? at h
 simp [Array.getElem?_eq_none hl] at h
theorem add_sp (b o:Nat) (i:Nat):(⟨b,o,none⟩:Addr).add i=⟨b,o+i,none⟩:=add_o b o i
section
variable {H:Type} {enc:TypeId × Value→H} {W:World} {base:Nat} {sp:Nat→Bool} {held:Bool} {fuel:Nat}
theorem open_bytes {cs:List Value} {x:DataW H × List MemPlace} (h:DataW.trod enc Tryz.prog W base sp held fuel 22 cs=some x):∃ p c xs,cs=[.slice p xs.length c]∧BF [] W p xs∧BR xs∧xs.length≤c:=by
 rcases open_ints bs_under u8_under (by kernel_rfl) h with ⟨rfl,rfl⟩ | ⟨a,len,cap,zs,rfl,_,hl,_,hz,rfl,hc,hwf⟩
 ·exact ⟨none,0,[],rfl,(fun h=>absurd h (by simp)),br_nil,Nat.zero_le _⟩
 have hlz:len≤zs.length:=by rw [hz];split <;> omega
 have hl2:(zs.take len).length=len:=by simp;omega
 refine ⟨some a,cap,zs.take len,by rw [hl2],fun hm=>?_,fun y hy=>?_,?_⟩
 ·rw [hl2] at hm
  have h0:=hc 0 (by omega)
  have hs:a.spot=none:=by simpa [Addr.add] using World.cell?_spot h0
  obtain ⟨b,o,s⟩:=a
  obtain rfl:s=none:=hs
  refine ⟨b,o,rfl,by have:=cell_lt h0;rwa [add_sp] at this,by simp,fun j hj=>?_⟩
  rw [hl2] at hj
  have:=hc j (by omega)
  rw [add_sp] at this
  rw [this]
  simp [List.getD_eq_getElem?_getD,hj]
 ·have:=hwf y (List.mem_of_mem_take hy)
  simp [Lit.wf,IntKind.min,IntKind.max,IntKind.signed,IntKind.bits] at this
  omega
 rw [hl2];exact hl
theorem flat2 (V0 V1:Nat→Int) (n:Nat):∃ ds:List Int,ds.length=2*n∧∀ i,i<n→ds.getD (i*2) 0=V0 i∧ds.getD (i*2+1) 0=V1 i:=by
 refine ⟨(List.range (2*n)).map fun j=>if j % 2=0 then V0 (j / 2) else V1 (j / 2),by simp,fun i hi=>⟨?_,?_⟩⟩
 ·have h:i*2<2*n:=by omega
  simp [List.getD_eq_getElem?_getD,h]
 have h:i*2+1<2*n:=by omega
 have h2:(i*2+1) % 2=1:=by omega
 have h3:(i*2+1) / 2=i:=by omega
 simp [List.getD_eq_getElem?_getD,h,h2,h3]
theorem open_dots {cs:List Value} {x:DataW H × List MemPlace} (h:DataW.trod enc Tryz.prog W base sp held fuel 43 cs=some x):∃ p n c ds,cs=[.slice p n c]∧DF [] W p n ds:=by
 rcases Deep.open_slice_pairs Tryz.underlying43 Tryz.underlying175 (by kernel_rfl) rfl rfl (by kernel_rfl) (by kernel_rfl) h with ⟨rfl,rfl⟩ | ⟨a,len,cap,m,n,V0,V1,D0,D1,P0,P1,rfl,_,hl,_,hm,rfl,hc⟩
 ·exact ⟨none,0,0,[],rfl,⟨rfl,fun h=>by omega⟩⟩
 have hlm:len≤m:=by rw [hm];split <;> omega
 have h0:∀ i,i<len→∃ z,V0 i=.int .i64 z:=fun i hi=>by
  obtain ⟨_,_,h3,_⟩:=hc i (by omega)
  obtain ⟨z,hz,_⟩:=DataW.trod_int int_under h3
  exact ⟨z,by simpa using hz⟩
 have h1:∀ i,i<len→∃ z,V1 i=.int .i64 z:=fun i hi=>by
  obtain ⟨_,_,_,h4⟩:=hc i (by omega)
  obtain ⟨z,hz,_⟩:=DataW.trod_int int_under h4
  exact ⟨z,by simpa using hz⟩
 obtain ⟨Z0,hZ0⟩:=Deep.choose_lt h0
 obtain ⟨Z1,hZ1⟩:=Deep.choose_lt h1
 obtain ⟨ds,hd,hds⟩:=flat2 Z0 Z1 len
 refine ⟨some a,len,cap,ds,rfl,⟨hd,fun hm2=>?_⟩⟩
 ·have hc0:=(hc 0 (by omega)).1
  have hs:a.spot=none:=by simpa [Addr.add] using World.cell?_spot hc0
  obtain ⟨b,o,s⟩:=a
  obtain rfl:s=none:=hs
  refine ⟨b,o,rfl,by have:=cell_lt hc0;rwa [add_sp] at this,by simp,fun j hj=>?_⟩
  have hq:=hc (j / 2) (by omega)
  have hd2:=hds (j / 2) (by omega)
  rcases Nat.mod_two_eq_zero_or_one j with hm3 | hm3
  ·have e:j / 2*2=j:=by omega
   have h5:=hq.1
   rw [add_sp,e,hZ0 _ (by omega)] at h5
   rw [e] at hd2
   rw [h5,← hd2.1]
  have e:j / 2*2+1=j:=by omega
  have h5:=hq.2.1
  rw [add_sp,e,hZ1 _ (by omega)] at h5
  rw [e] at hd2
  rw [h5,← hd2.2]
theorem list7 {cs:List Value} (h:cs.length=7):∃ a b c e f g i,cs=[a,b,c,e,f,g,i]:=by
 match cs,h with
 | [a,b,c,e,f,g,i],_=>exact ⟨a,b,c,e,f,g,i,rfl⟩
set_option maxRecDepth 20000 in
theorem open_rec {cs:List Value} {x:DataW H × List MemPlace} (h:DataW.trod enc Tryz.prog W base sp held fuel 45 cs=some x) :
  ∃ (r:RecD) (v:Value),cs=cellsV v∧RecC [] W v r∧(BR r.vs∧BR r.ss):=by
 obtain ⟨xs,n,_,rfl,hl,hx,hfl⟩:=DataW.trod_struct Tryz.underlying45 h
 have hN:Tryz.prog.cellsOf 45=7:=by kernel_rfl
 rw [hN] at hl
 obtain ⟨a,b,c,e,f,g,i,rfl⟩:=list7 hl
 have hget:∀ i,i<7→∃ y,xs[i]?=some y:=fun i hi=>⟨xs[i]'(by rw [hx];exact hi),List.getElem?_eq_getElem _⟩
 obtain ⟨y0,e0⟩:=hget 0 (by decide)
 obtain ⟨y1,e1⟩:=hget 1 (by decide)
 obtain ⟨y2,e2⟩:=hget 2 (by decide)
 obtain ⟨y3,e3⟩:=hget 3 (by decide)
 obtain ⟨y4,e4⟩:=hget 4 (by decide)
 obtain ⟨y5,e5⟩:=hget 5 (by decide)
 obtain ⟨y6,e6⟩:=hget 6 (by decide)
 have t0:DataW.trod enc Tryz.prog W base sp held n 9 (List.take (Tryz.prog.cellsOf 9) (List.drop 0 [a,b,c,e,f,g,i]))=some y0:=(hfl 0 _ rfl).trans e0
 rw [show Tryz.prog.cellsOf 9=1 by kernel_rfl] at t0
 change DataW.trod enc Tryz.prog W base sp held n 9 [a]=some y0 at t0
 have t1:DataW.trod enc Tryz.prog W base sp held n 3 (List.take (Tryz.prog.cellsOf 3) (List.drop 1 [a,b,c,e,f,g,i]))=some y1:=(hfl 1 _ rfl).trans e1
 rw [show Tryz.prog.cellsOf 3=1 by kernel_rfl] at t1
 change DataW.trod enc Tryz.prog W base sp held n 3 [b]=some y1 at t1
 have t2:DataW.trod enc Tryz.prog W base sp held n 3 (List.take (Tryz.prog.cellsOf 3) (List.drop 2 [a,b,c,e,f,g,i]))=some y2:=(hfl 2 _ rfl).trans e2
 rw [show Tryz.prog.cellsOf 3=1 by kernel_rfl] at t2
 change DataW.trod enc Tryz.prog W base sp held n 3 [c]=some y2 at t2
 have t3:DataW.trod enc Tryz.prog W base sp held n 43 (List.take (Tryz.prog.cellsOf 43) (List.drop 3 [a,b,c,e,f,g,i]))=some y3:=(hfl 3 _ rfl).trans e3
 rw [show Tryz.prog.cellsOf 43=1 by kernel_rfl] at t3
 change DataW.trod enc Tryz.prog W base sp held n 43 [e]=some y3 at t3
 have t4:DataW.trod enc Tryz.prog W base sp held n 4 (List.take (Tryz.prog.cellsOf 4) (List.drop 4 [a,b,c,e,f,g,i]))=some y4:=(hfl 4 _ rfl).trans e4
 rw [show Tryz.prog.cellsOf 4=1 by kernel_rfl] at t4
 change DataW.trod enc Tryz.prog W base sp held n 4 [f]=some y4 at t4
 have t5:DataW.trod enc Tryz.prog W base sp held n 22 (List.take (Tryz.prog.cellsOf 22) (List.drop 5 [a,b,c,e,f,g,i]))=some y5:=(hfl 5 _ rfl).trans e5
 rw [show Tryz.prog.cellsOf 22=1 by kernel_rfl] at t5
 change DataW.trod enc Tryz.prog W base sp held n 22 [g]=some y5 at t5
 have t6:DataW.trod enc Tryz.prog W base sp held n 22 (List.take (Tryz.prog.cellsOf 22) (List.drop 6 [a,b,c,e,f,g,i]))=some y6:=(hfl 6 _ rfl).trans e6
 rw [show Tryz.prog.cellsOf 22=1 by kernel_rfl] at t6
 change DataW.trod enc Tryz.prog W base sp held n 22 [i]=some y6 at t6
 obtain ⟨k,hk,_,_⟩:=DataW.trod_string str_under t0
 obtain ⟨cl,hcl,_⟩:=DataW.trod_int int_under t1
 obtain ⟨sq,hsq,_⟩:=DataW.trod_int int_under t2
 obtain ⟨p1,n1,c1,ds,hd,hD⟩:=open_dots t3
 obtain ⟨gone,hg,_⟩:=DataW.trod_bool (by kernel_rfl) t4
 obtain ⟨p2,c2,vs,hv,hV,hVb,b5⟩:=open_bytes t5
 obtain ⟨p3,c3',ss,hs,hS,hSb,b6⟩:=open_bytes t6
 simp only [List.cons.injEq,and_true] at hk hcl hsq hd hg hv hs
 subst hk hcl hsq hd hg hv hs
 exact ⟨⟨k,cl,sq,n1,ds,gone,vs,ss⟩,recV ⟨k,cl,sq,n1,ds,gone,vs,ss⟩ p1 c1 p2 c2 p3 c3',rfl,⟨p1,c1,p2,c2,p3,c3',rfl,hD,hV,hS,b5,b6⟩,⟨hVb,hSb⟩⟩
theorem open_recs {cs:List Value} {x:DataW H × List MemPlace} (h:DataW.trod enc Tryz.prog W base sp held fuel 66 cs=some x) :
  ∃ p c,∃ L:List RecD,cs=[.slice p L.length c]∧L.length≤c∧RecsC [] W p L∧∀ r∈L,BR r.vs∧BR r.ss:=by
 have hN:Tryz.prog.cellsOf 45=7:=by kernel_rfl
 rcases Deep.open_slice recs_under h with ⟨rfl,rfl⟩ | ⟨a,len,cap,m,n,D,Pl,rfl,_,hl,_,hm,rfl,hc⟩
 ·exact ⟨none,0,[],rfl,Nat.le_refl _,(fun h=>absurd h (by simp)),fun r h=>by cases h⟩
 have hlm:len≤m:=by rw [hm];split <;> omega
 rw [hN] at hc
 haveI:Inhabited RecD:=⟨⟨⟨#[]⟩,0,0,0,[],false,[],[]⟩⟩
 have hch:∀ i,i<len→∃ r:RecD,∃ (v:Value) (cs':List Value),W.cells? base (a.add (i*7)) 7=some cs'∧cs'=cellsV v∧RecC [] W v r∧(BR r.vs∧BR r.ss):=fun i hi=>by
  obtain ⟨cs',q1,q2⟩:=hc i (by omega)
  obtain ⟨r,v,e,hF,hb⟩:=open_rec q2
  exact ⟨r,v,cs',q1,e,hF,hb⟩
 obtain ⟨G,hG⟩:=Deep.choose_lt hch
 have hgl:((List.range len).map G).length=len:=by simp
 refine ⟨some a,cap,(List.range len).map G,by rw [hgl],by rw [hgl];exact hl,fun hm2=>?_,fun r hr=>?_⟩
 ·rw [hgl] at hm2
  obtain ⟨v0,cs0,q1,q2,-⟩:=hG 0 hm2
  obtain ⟨_,hcl,hcc⟩:=World.cells?_some q1
  have h0:=hcc 0 (by decide)
  rw [List.getElem?_eq_getElem (by rw [hcl];decide)] at h0
  have hs:a.spot=none:=by simpa [Addr.add] using World.cell?_spot h0
  obtain ⟨b,o,s⟩:=a
  obtain rfl:s=none:=hs
  refine ⟨b,o,rfl,by have:=cell_lt h0;rwa [add_sp,add_sp] at this,by simp,fun i r hr=>?_⟩
  have hi:i<len:=by have:=(List.getElem?_eq_some_iff.1 hr).1;rwa [hgl] at this
  have hr2:r=G i:=by simp [hi] at hr;exact hr.symm
  subst hr2
  obtain ⟨v,cs',k1,k2,k3,-⟩:=hG i hi
  refine ⟨v,k3,fun j u hu=>?_⟩
  obtain ⟨_,hcl',hcc'⟩:=World.cells?_some k1
  have hj:j<7:=by rw [← hcl',k2];exact (List.getElem?_eq_some_iff.1 hu).1
  have:=hcc' j hj
  rw [add_sp,add_sp,k2,hu] at this
  exact this
 obtain ⟨i,hi,rfl⟩:=List.mem_map.1 hr
 have hi2:=List.mem_range.1 hi
 obtain ⟨v,cs',k1,k2,k3,k4⟩:=hG i hi2
 exact k4
set_option maxRecDepth 20000 in
theorem arg_recs {v:Value} {d:DataW H} {ps:List MemPlace} (hval:Value.okWide Tryz.prog W .any base 66 v) (h:DataW.Trod enc Tryz.prog W 0 sp held 66 v d ps):∃ p c,∃ L:List RecD,v=.slice p L.length c∧L.length≤c∧RecsC [] W p L∧∀ r∈L,BR r.vs∧BR r.ss:=by
 obtain ⟨a,len,cap,rfl⟩:=okWide_slice recs_under hval
 obtain ⟨fuel,hf⟩:=h
 obtain ⟨p,c,L,e,h0,h1,h2⟩:=open_recs hf
 simp only [Value.cells,List.cons.injEq,Value.slice.injEq,and_true] at e
 obtain ⟨rfl,rfl,rfl⟩:=e
 exact ⟨_,_,L,rfl,h0,h1,h2⟩
set_option maxRecDepth 20000 in
theorem arg_rec {v:Value} {d:DataW H} {ps:List MemPlace} (hval:Value.okWide Tryz.prog W .any base 45 v) (h:DataW.Trod enc Tryz.prog W 0 sp held 45 v d ps):∃ r:RecD,RecC [] W v r∧BR r.vs∧BR r.ss:=by
 obtain ⟨cs,rfl,hcs⟩:=okWide_struct Tryz.underlying45 hval
 obtain ⟨fuel,hf⟩:=h
 obtain ⟨r,v',e,h1,h2⟩:=open_rec hf
 obtain ⟨p1,c1,p2,c2,p3,c3,rfl,h3⟩:=h1
 refine ⟨r,⟨p1,c1,p2,c2,p3,c3,?_,h3⟩,h2⟩
 have e':cs.toList=_:=e
 unfold recV
 congr 1
 exact Array.toList_inj.1 e'
end
end Go.Proofs.YtnopjabcdloepaaGreatDoor.Rc

namespace Go.Proofs.YtnopjabcdloepaaGreatDoor.Rc
open Go Go.ChangeShapes Go.WideShapes Go.ChangeAt Go.RowKit
section
variable {H:Type} {enc:TypeId × Value→H} {W:World} {base:Nat} {sp:Nat→Bool} {held:Bool} {fuel:Nat}
theorem fit_slice {t e:TypeId} (ht:Tryz.prog.underlying t=some (.slice e)) (hb:1≤Tryz.prog.bytesOf e) {cs:List Value} {x:DataW H × List MemPlace} (h:DataW.trod enc Tryz.prog W base sp held fuel t cs=some x) (hw:∀ n∈x.1.weights Tryz.prog t,n≤reachBytes) {p:Option Addr} {n c:Nat} (e:cs=[.slice p n c]):n≤reachBytes:=by
 rcases DataW.trod_slice ht h with ⟨rfl,rfl⟩ | ⟨a,len,cap,elems,rest,k,_,rfl,rfl,_,_,_,hlen,_,_,_⟩
 ·simp only [List.cons.injEq,Value.slice.injEq,and_true] at e
  obtain ⟨-,rfl,-⟩:=e
  exact Nat.zero_le _
 simp only [List.cons.injEq,Value.slice.injEq,and_true] at e
 obtain ⟨-,rfl,-⟩:=e
 have h1:=hw (((elems.map (·.1)).length+(rest.map (·.1)).length)*Tryz.prog.bytesOf _) (by
  unfold DataW.weights
  rw [ht]
  exact List.mem_cons_self ..)
 rw [List.length_map,List.length_map,hlen] at h1
 have h2:(len+rest.length)*1≤(len+rest.length)*Tryz.prog.bytesOf _:=Nat.mul_le_mul_left _ hb
 omega
set_option maxRecDepth 20000 in
theorem fit_rec {cs:List Value} {x:DataW H × List MemPlace} (h:DataW.trod enc Tryz.prog W base sp held fuel 45 cs=some x) (hw:∀ n∈x.1.weights Tryz.prog 45,n≤reachBytes) {k:ByteArray} {v1 v2 v4:Value} {p1:Option Addr} {n1 c1:Nat} {p2:Option Addr} {n2 c2:Nat} {p3:Option Addr} {n3 c3:Nat} (e:cs=[.string k,v1,v2,.slice p1 n1 c1,v4,.slice p2 n2 c2,.slice p3 n3 c3]):k.size+n2+n3+n1≤1000000000000000:=by
 obtain ⟨xs,n,_,rfl,hl,hx,hfl⟩:=DataW.trod_struct Tryz.underlying45 h
 subst e
 have hget:∀ i,i<7→∃ y,xs[i]?=some y:=fun i hi=>⟨xs[i]'(by rw [hx];exact hi),List.getElem?_eq_getElem _⟩
 have hws:∀ (j:Nat) (f:Field) (y:DataW H × List MemPlace),(show Array Field from _)[j]?=some f→xs[j]?=some y→∀ m∈y.1.weights Tryz.prog f.type,m≤reachBytes:=fun j f y hf hy m hm=>hw m (by
  unfold DataW.weights
  rw [Tryz.underlying45]
  refine DataW.weights_mem_each (j:=j) (t:=f.type) (d:=y.1) ?_ ?_ m hm
  ·rw [List.getElem?_map,Array.getElem?_toList,hf];rfl
  rw [List.getElem?_map,hy];rfl)
 obtain ⟨y0,e0⟩:=hget 0 (by decide)
 obtain ⟨y3,e3⟩:=hget 3 (by decide)
 obtain ⟨y5,e5⟩:=hget 5 (by decide)
 obtain ⟨y6,e6⟩:=hget 6 (by decide)
 have t0:=(hfl 0 _ rfl).trans e0
 have t3:=(hfl 3 _ rfl).trans e3
 have t5:=(hfl 5 _ rfl).trans e5
 have t6:=(hfl 6 _ rfl).trans e6
 have w0:=hws 0 _ y0 rfl e0
 have w3:=hws 3 _ y3 rfl e3
 have w5:=hws 5 _ y5 rfl e5
 have w6:=hws 6 _ y6 rfl e6
 have hc1:Tryz.prog.cellsOf 9=1:=by kernel_rfl
 have hc2:Tryz.prog.cellsOf 43=1:=by kernel_rfl
 have hc3:Tryz.prog.cellsOf 22=1:=by kernel_rfl
 change DataW.trod enc Tryz.prog W base sp held n 9 (List.take (Tryz.prog.cellsOf 9) (List.drop 0 [.string k,v1,v2,.slice p1 n1 c1,v4,.slice p2 n2 c2,.slice p3 n3 c3]))=some y0 at t0
 change DataW.trod enc Tryz.prog W base sp held n 43 (List.take (Tryz.prog.cellsOf 43) (List.drop 3 [.string k,v1,v2,.slice p1 n1 c1,v4,.slice p2 n2 c2,.slice p3 n3 c3]))=some y3 at t3
 change DataW.trod enc Tryz.prog W base sp held n 22 (List.take (Tryz.prog.cellsOf 22) (List.drop 5 [.string k,v1,v2,.slice p1 n1 c1,v4,.slice p2 n2 c2,.slice p3 n3 c3]))=some y5 at t5
 change DataW.trod enc Tryz.prog W base sp held n 22 (List.take (Tryz.prog.cellsOf 22) (List.drop 6 [.string k,v1,v2,.slice p1 n1 c1,v4,.slice p2 n2 c2,.slice p3 n3 c3]))=some y6 at t6
 rw [hc1] at t0
 rw [hc2] at t3
 rw [hc3] at t5 t6
 obtain ⟨k',hk,hy,_⟩:=DataW.trod_string str_under t0
 have hk':k=k':=by injection hk with hk _;injection hk
 subst hk'
 have b0:k.size≤reachBytes:=by
  have:=w0 k.data.toList.length (by rw [hy];exact List.mem_cons_self ..)
  rwa [Array.length_toList] at this
 have b3:=fit_slice (e:=175) (by kernel_rfl) (of_decide_eq_true (by kernel_rfl)) t3 w3 rfl
 have b5:=fit_slice (e:=5) (by kernel_rfl) (of_decide_eq_true (by kernel_rfl)) t5 w5 rfl
 have b6:=fit_slice (e:=5) (by kernel_rfl) (of_decide_eq_true (by kernel_rfl)) t6 w6 rfl
 unfold reachBytes at b0 b3 b5 b6
 omega
end
end Go.Proofs.YtnopjabcdloepaaGreatDoor.Rc

namespace Go.Proofs.YtnopjabcdloepaaGreatDoor
open Go.ChangeShapes Go.WideShapes Go.ChangeAt Go.WideMaps Go.WideElems Go.RowKit
set_option maxRecDepth 100000 in
theorem grantOwn_lifted (os:Os) (started:os.Started) (H:Type) (enc:TypeId × Value→H) :
  ReturnsInHanded {} Tryz.checked os 5 .any (fun w args=>(Rows.grantOwnSpec.pre enc Tryz.prog Tryz.f5 [] false w args∧laidMetH Tryz.prog laidS w)∧sizedMet enc Tryz.prog Tryz.f5 (OpenSpec.ofChange Rows.grantOwnSpec) false w args)
   (Rows.grantOwnSpec.post enc Tryz.prog Tryz.f5 false true false false):=by
 refine returnsInHanded_of_change_and (C:=Tryz.checked) (X:=fun w _=>laidMetH Tryz.prog laidS w) (fun _ _ _ hh h=>h.of_heap hh) own_ started (by kernel_rfl) Tryz.func5
  (ChangeSpec.witness_shaped (enc:=enc) (C:=Tryz.checked) (os:=os) (X:=fun w _=>laidMetH Tryz.prog laidS w) false (World.doorLaid Tryz.prog 400 os) #[.slice none 0 0,.agg #[.string ⟨#[]⟩,.int .i64 0,.int .i64 0,.slice none 0 0,.bool false,.slice none 0 0,.slice none 0 0],.string ⟨#[]⟩,.int .i64 0] 8 rfl (World.shaped_of_RefB (by kernel_rfl) (by kernel_rfl)) (by kernel_rfl) (by kernel_rfl) (by kernel_rfl) (door_met os _)) ?_
 intro W base args ds gs before hval0 hW _ hsz hL _
 have hval:∀ (j:Nat) t v,Tryz.f5.params[j]?=some t→args[j]?=some v→Value.okWide Tryz.prog W .any base t v:=hval0
 have hW':=hW
 obtain ⟨p,q,hA0,hV,rfl,hfz,hnd⟩:=hW
 have hA:DataW.TrodAll enc Tryz.prog W 0 (fun _=>true) true Tryz.f5.params.toList args.toList ds p:=hA0
 rw [Tryz.params5] at hA hval
 obtain ⟨v0,v1,v2,v3,d0,d1,d2,d3,q0,q1,q2,q3,rfl,rfl,rfl,h0,h1,h2,h3⟩:=trodAll_four hA
 obtain ⟨rfl,rfl⟩:=trodVars_none hV
 have hv0:=hval 0 22 v0 rfl rfl
 have hv1:=hval 1 45 v1 rfl rfl
 have hw1:∀ n∈d1.weights Tryz.prog 45,n≤reachBytes:=fun n hn=>by
  have:=List.all_eq_true.1 hsz n (DataW.weights_mem_each (j:=1) (t:=45) (d:=d1) (by rw [Tryz.params5];rfl) rfl n hn)
  simpa using this
 have hv2:=hval 2 9 v2 rfl rfl
 have hv3:=hval 3 3 v3 rfl rfl
 clear hA0 hval0
 simp only [List.append_nil] at hW'
 obtain ⟨hCv,hS⟩:=of_laid hL
 have hlt:∀ x∈q0++q1++q2++q3,x.block<W.heap.size:=fun x hx=>hW'.lt x hx
 obtain ⟨a0,n0,c0,b0,rfl,hr0,hB0,hc0⟩:=open_bs hv0 h0
 obtain ⟨r1,⟨pa1,ca1,pb1,cb1,pc1,cc1,rfl,hD1,hV1,hS1,hcv1,hcs1⟩,hbv1,hbs1⟩:=Rc.arg_rec hv1 h1
 have hfit1:Rc.recFit r1:=by
  obtain ⟨fuel,hf⟩:=h1
  exact Rc.fit_rec hf hw1 rfl
 obtain ⟨s2,rfl⟩:=okWide_string (show Tryz.prog.underlying 9=some .string by kernel_rfl) hv2
 obtain ⟨x3,rfl⟩:=okWide_int (show Tryz.prog.underlying 3=some (.int .i64) by kernel_rfl) hv3
 clear hv0 hv1 hv2 hv3
 refine (Rc.own_c a0 n0 c0 b0 hc0 hr0 r1 pa1 ca1 pb1 cb1 pc1 cc1 s2 x3 hfit1 ⟨hbv1,hbs1⟩ W hB0 hD1 hV1 hS1 hS hCv).mono fun e W' ⟨he,hb⟩=>?_
 subst he
 exact ⟨_,rfl,post_of_below (pa:=q0++q1++q2++q3) (pv:=[]) hW' (fun _ _ _=>trodAll_mk1 (shut_bool bool_under true))
  (fun sp hsp=>⟨q0,(q1++q2++q3),WideElems.Trod_stays (by kernel_rfl) (by kernel_rfl) (of_decide_eq_true (by kernel_rfl)) h0 (fun x hx=>hb.same (hlt x (by simp [hx]))) (fun x hx=>hsp x (by simp [hx])),⟨q1,(q2++q3),WideElems.Trod_stays (by kernel_rfl) (by kernel_rfl) (of_decide_eq_true (by kernel_rfl)) h1 (fun x hx=>hb.same (hlt x (by simp [hx]))) (fun x hx=>hsp x (by simp [hx])),⟨q2,q3,WideElems.Trod_stays (by kernel_rfl) (by kernel_rfl) (of_decide_eq_true (by kernel_rfl)) h2 (fun x hx=>hb.same (hlt x (by simp [hx]))) (fun x hx=>hsp x (by simp [hx])),⟨q3,[],WideElems.Trod_stays (by kernel_rfl) (by kernel_rfl) (of_decide_eq_true (by kernel_rfl)) h3 (fun x hx=>hb.same (hlt x (by simp [hx]))) (fun x hx=>hsp x (by simp [hx])),rfl,by simp⟩,by simp⟩,by simp⟩,by simp⟩)
  (fun _ _=>rfl) (by simp) hb
  (ok_one (by kernel_rfl) rfl (okWide_bool_mk bool_under true))⟩
end Go.Proofs.YtnopjabcdloepaaGreatDoor
