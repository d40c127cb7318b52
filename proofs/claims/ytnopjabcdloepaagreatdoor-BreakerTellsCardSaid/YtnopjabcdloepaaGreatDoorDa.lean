import Derived.Test.YtnopjabcdloepaaGreatDoorBm
import Derived.Test.YtnopjabcdloepaaGreatDoorCv
import Derived.Deep.SlicePairs
import Derived.Carry
namespace Go.Proofs.YtnopjabcdloepaaGreatDoor.Rc
open Go Go.RowKit
def smR (r:RecD):Prop:=r.vs.length≤2000∧r.n≤50∧r.ss.length≤200
def PostLi (n:Nat) (rs:List RecD) (w:World) (e:Ending) (w':World):Prop:=(∃ b:Bool,e=.returned (.bool b)∧(b=true→n≤10∧∀ r∈rs,smR r))∧Below w.heap.size w w'
set_option maxRecDepth 20000 in
set_option maxHeartbeats 4000000 in
theorem light_c (p:Option Addr) (n c:Nat) (rs:List RecD) (hn:n=rs.length) (w:World) (hR:RecsC [] w p rs) :
  Calls Tryz.prog 68 #[.slice p n c] w (PostLi n rs w):=by
 replace hR:=Lib.hid hR
 replace hn:=Lib.hid hn
 go_enter Tryz.func68,Tryz.ntmps68
 go_wp2
 go_loopw [3] (fun i wr=>∃ k:Nat,k≤n∧k≤11∧i=.int .i64 k∧(∀ (j:Nat) (y:RecD),j<k→rs[j]?=some y→smR y)∧Below w.heap.size w wr) (fun i _=>(n-intOf i).toNat)
 case atStart=>exact ⟨0,by omega,by omega,rfl,fun j y h=>absurd h (by omega),Below.refl _ _⟩
 case round =>
  obtain ⟨k,hk,hk11,rfl,hall,hb⟩:=hrel
  by_cases he:k=n
  ·subst he
   have hA:=Lib.hid (show ∀ r∈rs,smR r from fun r hr=>by
    obtain ⟨j,hj⟩:=List.mem_iff_getElem?.1 hr
    exact hall j r (by have:=hn.out;have:=(List.getElem?_eq_some_iff.1 hj).1;omega) hj)
   have hb':=Lib.hid hb
   clear hall hb
   go_wp2
   go_returns
   exact ⟨⟨decide ((k:Int)≤10),rfl,fun h=>⟨by have:=of_decide_eq_true h;omega,hA.out⟩⟩,hb'.out⟩
  by_cases he2:k=11
  ·subst he2
   have hb':=Lib.hid hb
   clear hall hb
   go_wp2
   go_returns
   exact ⟨⟨decide ((n:Int)≤10),rfl,fun h=>absurd (of_decide_eq_true h) (by omega)⟩,hb'.out⟩
  have hkl:k<rs.length:=by have:=hn.out;omega
  obtain ⟨x,hx⟩:∃ x,rs[k]?=some x:=⟨_,List.getElem?_eq_getElem hkl⟩
  obtain ⟨g,o,rfl,hg,p1,c1,p2,c2,p3,c3,hrec,y0,y1,y2,y3,y4,y5,y6⟩:=(hR.out.ext (.below hb)).get hx
  have j0:(0:Int)≤(k:Int):=by omega
  have j1:(k:Int)<(n:Int):=by omega
  have j2:k<n:=by omega
  have j3:(k:Int)<11:=by omega
  replace hx:=Lib.hid hx
  have hall':=Lib.hid hall
  have hb':=Lib.hid hb
  clear he he2 hk hall hb hrec
  by_cases a1:(200:Int)<(x.k.size:Int)
  ·go_wp2
   go_returns
   exact ⟨⟨false,rfl,fun h=>by cases h⟩,hb'.out⟩
  by_cases a2:(2000:Int)<(x.vs.length:Int)
  ·go_wp2
   go_returns
   exact ⟨⟨false,rfl,fun h=>by cases h⟩,hb'.out⟩
  by_cases a3:(50:Int)<(x.n:Int)
  ·go_wp2
   go_returns
   exact ⟨⟨false,rfl,fun h=>by cases h⟩,hb'.out⟩
  by_cases a4:(200:Int)<(x.ss.length:Int)
  ·go_wp2
   go_returns
   exact ⟨⟨false,rfl,fun h=>by cases h⟩,hb'.out⟩
  have hs:=Lib.hid (show smR x from ⟨by omega,by omega,by omega⟩)
  go_wp2
  exact ⟨⟨k+1,by omega,by omega,by simp,fun j y hj hy=>by
   by_cases e:j=k
   ·subst e
    rw [hx.out] at hy
    obtain rfl:x=y:=by injection hy
    exact hs.out
   exact hall'.out j y (by omega) hy,hb'.out⟩,by simp [intOf];omega⟩
end Go.Proofs.YtnopjabcdloepaaGreatDoor.Rc

namespace Go.Proofs.YtnopjabcdloepaaGreatDoor.Rc
open Go Go.RowKit
theorem own_form {w:World} {B m:Nat} {v:Value} {ds:List Int} (h:w.ownsRow B 175 2 v m (dotL ds)):∃ q cc,v=.slice q m cc∧DotsL w q m ds:=by
 have hl:ds.length=2*m:=by have:=h.1;rw [dotL_len] at this;omega
 rcases h.2 with ⟨rfl,rfl⟩ | ⟨g,cap,cur,rfl,h1,h2,h3,h4,h5,h6⟩
 ·exact ⟨none,0,rfl,hl,fun h=>by omega⟩
 refine ⟨some ⟨g,0,none⟩,cap,rfl,hl,fun _=>⟨g,0,rfl,(Array.getElem?_eq_some_iff.1 h2).1,fun j hj=>?_⟩⟩
 rw [Nat.zero_add,h.cellAt j (by omega)]
 have hj2:j<ds.length:=by omega
 simp [dotL,hj2]
theorem own_dots {w:World} {B m cc:Nat} {q:Option Addr} {ds:List Int} (h:w.ownsRow B 175 2 (.slice q m cc) m (dotL ds)):DotsL w q m ds:=by
 obtain ⟨q',cc',e,h2⟩:=own_form h
 injection e with e1 e2 e3
 subst e1
 exact h2
def frX (t:Int):GrV:=if 1≤t∧t≤4 then ⟨t,none,0,fL 32 (kyB t.toNat),⟨#[]⟩⟩ else gr0
def frI (t:Int):Bool:=decide (1≤t∧t≤4)
theorem Find4 {L:List GrV} (h4:Gr4 L) (p:Option Addr) (c:Nat) (t:Int) (w:World) (hG:GsAt w p L):Calls Tryz.prog 43 #[.slice p 4 c,.int .i64 t] w (PostFg (frX t) (frI t) w):=by
 unfold frX frI
 by_cases h:1≤t∧t≤4
 ·rw [if_pos h,decide_eq_true h]
  obtain ⟨x,hx,hp,hr,hc⟩:=h4.f (t:=t.toNat) (by omega) (by omega)
  rw [show ((t.toNat:Nat):Int)=t by omega] at hx hc
  refine (Find_s p 4 c L t x hx h4.1.symm (by decide) (by rw [hp,fL_len];decide) w hG).mono ?_
  rintro e w' ⟨q',c',he,ho,hb⟩
  rw [hp,hr,hc] at he
  rw [hp] at ho
  exact ⟨q',c',he,ho,hb⟩
 rw [if_neg h,decide_eq_false h]
 exact Find_n p 4 c L t (h4.n (by omega)) h4.1.symm (by decide) w hG
def GrP (v:Value) (w:World):Prop:=∃ p c L,v=.slice p 4 c∧Gr4 L∧GsAt w p L
theorem sta_gr:Sta GrP:=fun _ _ _ ⟨p,c,L,h1,h2,h3⟩ hb=>⟨p,c,L,h1,h2,h3.below hb⟩
def FgP (x:GrV) (is:Bool) (v:Value) (w:World):Prop:=∃ q c,v=.tuple #[.agg #[.int .i64 x.cl,.slice q x.pub.length c,.string x.pre],.bool is]∧w.ownsRow 0 5 1 (.slice q x.pub.length c) x.pub.length (bL x.pub)
theorem sta_fg (x:GrV) (is:Bool):Sta (FgP x is):=fun _ _ _ ⟨q,c,h1,h2⟩ hb=>⟨q,c,h1,below_kept h2 hb⟩
def AgP (x:GrV) (v:Value) (w:World):Prop:=∃ q c,v=.agg #[.int .i64 x.cl,.slice q x.pub.length c,.string x.pre]∧w.ownsRow 0 5 1 (.slice q x.pub.length c) x.pub.length (bL x.pub)
theorem sta_ag (x:GrV):Sta (AgP x):=fun _ _ _ ⟨q,c,h1,h2⟩ hb=>⟨q,c,h1,below_kept h2 hb⟩
theorem gr_size:(Tryz.prog.info? 51).map (·.size)=some 3:=by kernel_rfl
theorem stGr {ops:Array Oper} {rest:List Oper} {o:Oper} {a:Act} {w:World} {Q:Exit→Act→World→Prop} (hgd:o.guard=none) {x y:Operand} (ho:o.op=.store 51 x y) {g:Nat} {x0 x1 x2:Value} {old:Array Value} (hx:a.eval x=.pointer (some ⟨g,0,none⟩)) (hy:a.eval y=.agg #[x0,x1,x2]) (hg:Blk w g 51 old) (hs:old.size=3) (h1:(#[x0,x1,x2]:Array Value).all (·.oneCell')=true)
  (h:∀ w',Blk w' g 51 #[x0,x1,x2]→w.grownBy w' (some g)→w'.heap.size=w.heap.size→wpList Tryz.prog ops Q rest (a.put o.dst undef) w'):wpList Tryz.prog ops Q (o::rest) a w :=
 wpList_store_blk hgd 51 x y ho g 51 old _ hx hy hg hs gr_size h1 h
theorem own_other {w w':World} {n g:Nat} {T:TypeId} {v:Value} {cs:Array Value} {xs:List Value} (h:w.ownsRow 0 5 1 v n xs) (k:Blk w g T cs) (hT:T≠5) (hg:w.grownBy w' (some g)):w'.ownsRow 0 5 1 v n xs:=by
 refine ⟨h.1,?_⟩
 rcases h.2 with hn | ⟨g1,cap,cur,rfl,h1,hgg,rest⟩
 ·exact .inl hn
 refine .inr ⟨g1,cap,cur,rfl,h1,(hg.block g1 (Array.getElem?_eq_some_iff.1 hgg).1 (fun e=>?_)).trans hgg,rest⟩
 obtain rfl:g1=g:=Option.some.inj e
 have:=hgg.symm.trans k
 injection this with this
 injection this with a1 a2 a3
 exact hT a2.symm
end Go.Proofs.YtnopjabcdloepaaGreatDoor.Rc

namespace Go.Proofs.YtnopjabcdloepaaGreatDoor.Rc
open Go Go.RowKit
section
variable {α:Type} {T:α→List Int}
end
theorem ck0_sh {K:Nat→Int} {r:RecD} (h:ckR K r=0):shB r.k.size r.cl r.sq r.n r.ds r.gone r.vs.length=true∧r.ss.length=64∧vfR K r=true:=by
 unfold ckR at h
 split at h
 ·rename_i h1
  unfold rightR at h1
  rw [Bool.and_eq_true,decide_eq_true_eq] at h1
  refine ⟨h1.1,h1.2,?_⟩
  split at h
  ·assumption
  exact absurd h (by decide)
 exact absurd h (by decide)
end Go.Proofs.YtnopjabcdloepaaGreatDoor.Rc

namespace Go.Proofs.YtnopjabcdloepaaGreatDoor.Rc
open Go Go.ChangeShapes Go.WideShapes Go.ChangeAt Go.RowKit
theorem cell_lt {w:World} {a:Addr} {v:Value} (h:w.cell? a=some v):a.block<w.heap.size:=by
 rcases Nat.lt_or_ge a.block w.heap.size with hl | hl
 ·exact hl
 unfold World.cell? at h
 simp [Array.getElem?_eq_none hl] at h
theorem add_sp (b o:Nat) (i:Nat):(⟨b,o,none⟩:Addr).add i=⟨b,o+i,none⟩:=add_o b o i
section
variable {H:Type} {enc:TypeId × Value→H} {W:World} {base:Nat} {sp:Nat→Bool} {held:Bool} {fuel:Nat}
theorem open_bytes {cs:List Value} {x:DataW H × List MemPlace} (h:DataW.trod enc Tryz.prog W base sp held fuel 22 cs=some x):∃ p c xs,cs=[.slice p xs.length c]∧BF [] W p xs∧BR xs∧xs.length≤c:=by
 rcases open_ints bs_under u8_under (by kernel_rfl) h with ⟨rfl,rfl⟩ | ⟨a,len,cap,zs,rfl,_,hl,_,hz,rfl,hc,hwf⟩
 ·exact ⟨none,0,[],rfl,(fun h=>absurd h (by simp)),br_nil,Nat.zero_le _⟩
 have hlz:len≤zs.length:=by rw [hz];split <;> omega
 have hl2:(zs.take len).length=len:=by simp;omega
 refine ⟨some a,cap,zs.take len,by rw [hl2],fun hm=>?_,fun y hy=>?_,?_⟩
 ·rw [hl2] at hm
  have h0:=hc 0 (by omega)
  have hs:a.spot=none:=by simpa [Addr.add] using World.cell?_spot h0
  obtain ⟨b,o,s⟩:=a
  obtain rfl:s=none:=hs
  refine ⟨b,o,rfl,by have:=cell_lt h0;rwa [add_sp] at this,by simp,fun j hj=>?_⟩
  rw [hl2] at hj
  have:=hc j (by omega)
  rw [add_sp] at this
  rw [this]
  simp [List.getD_eq_getElem?_getD,hj]
 ·have:=hwf y (List.mem_of_mem_take hy)
  simp [Lit.wf,IntKind.min,IntKind.max,IntKind.signed,IntKind.bits] at this
  omega
 rw [hl2];exact hl
theorem flat2 (V0 V1:Nat→Int) (n:Nat):∃ ds:List Int,ds.length=2*n∧∀ i,i<n→ds.getD (i*2) 0=V0 i∧ds.getD (i*2+1) 0=V1 i:=by
 refine ⟨(List.range (2*n)).map fun j=>if j % 2=0 then V0 (j / 2) else V1 (j / 2),by simp,fun i hi=>⟨?_,?_⟩⟩
 ·have h:i*2<2*n:=by omega
  simp [List.getD_eq_getElem?_getD,h]
 have h:i*2+1<2*n:=by omega
 have h2:(i*2+1) % 2=1:=by omega
 have h3:(i*2+1) / 2=i:=by omega
 simp [List.getD_eq_getElem?_getD,h,h2,h3]
theorem open_dots {cs:List Value} {x:DataW H × List MemPlace} (h:DataW.trod enc Tryz.prog W base sp held fuel 43 cs=some x):∃ p n c ds,cs=[.slice p n c]∧DF [] W p n ds:=by
 rcases Deep.open_slice_pairs Tryz.underlying43 Tryz.underlying175 (by kernel_rfl) rfl rfl (by kernel_rfl) (by kernel_rfl) h with ⟨rfl,rfl⟩ | ⟨a,len,cap,m,n,V0,V1,D0,D1,P0,P1,rfl,_,hl,_,hm,rfl,hc⟩
 ·exact ⟨none,0,0,[],rfl,⟨rfl,fun h=>by omega⟩⟩
 have hlm:len≤m:=by rw [hm];split <;> omega
 have h0:∀ i,i<len→∃ z,V0 i=.int .i64 z:=fun i hi=>by
  obtain ⟨_,_,h3,_⟩:=hc i (by omega)
  obtain ⟨z,hz,_⟩:=DataW.trod_int int_under h3
  exact ⟨z,by simpa using hz⟩
 have h1:∀ i,i<len→∃ z,V1 i=.int .i64 z:=fun i hi=>by
  obtain ⟨_,_,_,h4⟩:=hc i (by omega)
  obtain ⟨z,hz,_⟩:=DataW.trod_int int_under h4
  exact ⟨z,by simpa using hz⟩
 obtain ⟨Z0,hZ0⟩:=Deep.choose_lt h0
 obtain ⟨Z1,hZ1⟩:=Deep.choose_lt h1
 obtain ⟨ds,hd,hds⟩:=flat2 Z0 Z1 len
 refine ⟨some a,len,cap,ds,rfl,⟨hd,fun hm2=>?_⟩⟩
 ·have hc0:=(hc 0 (by omega)).1
  have hs:a.spot=none:=by simpa [Addr.add] using World.cell?_spot hc0
  obtain ⟨b,o,s⟩:=a
  obtain rfl:s=none:=hs
  refine ⟨b,o,rfl,by have:=cell_lt hc0;rwa [add_sp] at this,by simp,fun j hj=>?_⟩
  have hq:=hc (j / 2) (by omega)
  have hd2:=hds (j / 2) (by omega)
  rcases Nat.mod_two_eq_zero_or_one j with hm3 | hm3
  ·have e:j / 2*2=j:=by omega
   have h5:=hq.1
   rw [add_sp,e,hZ0 _ (by omega)] at h5
   rw [e] at hd2
   rw [h5,← hd2.1]
  have e:j / 2*2+1=j:=by omega
  have h5:=hq.2.1
  rw [add_sp,e,hZ1 _ (by omega)] at h5
  rw [e] at hd2
  rw [h5,← hd2.2]
theorem list7 {cs:List Value} (h:cs.length=7):∃ a b c e f g i,cs=[a,b,c,e,f,g,i]:=by
 match cs,h with
 | [a,b,c,e,f,g,i],_=>exact ⟨a,b,c,e,f,g,i,rfl⟩
set_option maxRecDepth 20000 in
theorem open_rec {cs:List Value} {x:DataW H × List MemPlace} (h:DataW.trod enc Tryz.prog W base sp held fuel 45 cs=some x) :
  ∃ (r:RecD) (v:Value),cs=cellsV v∧RecC [] W v r∧(BR r.vs∧BR r.ss):=by
 obtain ⟨xs,n,_,rfl,hl,hx,hfl⟩:=DataW.trod_struct Tryz.underlying45 h
 have hN:Tryz.prog.cellsOf 45=7:=by kernel_rfl
 rw [hN] at hl
 obtain ⟨a,b,c,e,f,g,i,rfl⟩:=list7 hl
 have hget:∀ i,i<7→∃ y,xs[i]?=some y:=fun i hi=>⟨xs[i]'(by rw [hx];exact hi),List.getElem?_eq_getElem _⟩
 obtain ⟨y0,e0⟩:=hget 0 (by decide)
 obtain ⟨y1,e1⟩:=hget 1 (by decide)
 obtain ⟨y2,e2⟩:=hget 2 (by decide)
 obtain ⟨y3,e3⟩:=hget 3 (by decide)
 obtain ⟨y4,e4⟩:=hget 4 (by decide)
 obtain ⟨y5,e5⟩:=hget 5 (by decide)
 obtain ⟨y6,e6⟩:=hget 6 (by decide)
 have t0:DataW.trod enc Tryz.prog W base sp held n 9 (List.take (Tryz.prog.cellsOf 9) (List.drop 0 [a,b,c,e,f,g,i]))=some y0:=(hfl 0 _ rfl).trans e0
 rw [show Tryz.prog.cellsOf 9=1 by kernel_rfl] at t0
 change DataW.trod enc Tryz.prog W base sp held n 9 [a]=some y0 at t0
 have t1:DataW.trod enc Tryz.prog W base sp held n 3 (List.take (Tryz.prog.cellsOf 3) (List.drop 1 [a,b,c,e,f,g,i]))=some y1:=(hfl 1 _ rfl).trans e1
 rw [show Tryz.prog.cellsOf 3=1 by kernel_rfl] at t1
 change DataW.trod enc Tryz.prog W base sp held n 3 [b]=some y1 at t1
 have t2:DataW.trod enc Tryz.prog W base sp held n 3 (List.take (Tryz.prog.cellsOf 3) (List.drop 2 [a,b,c,e,f,g,i]))=some y2:=(hfl 2 _ rfl).trans e2
 rw [show Tryz.prog.cellsOf 3=1 by kernel_rfl] at t2
 change DataW.trod enc Tryz.prog W base sp held n 3 [c]=some y2 at t2
 have t3:DataW.trod enc Tryz.prog W base sp held n 43 (List.take (Tryz.prog.cellsOf 43) (List.drop 3 [a,b,c,e,f,g,i]))=some y3:=(hfl 3 _ rfl).trans e3
 rw [show Tryz.prog.cellsOf 43=1 by kernel_rfl] at t3
 change DataW.trod enc Tryz.prog W base sp held n 43 [e]=some y3 at t3
 have t4:DataW.trod enc Tryz.prog W base sp held n 4 (List.take (Tryz.prog.cellsOf 4) (List.drop 4 [a,b,c,e,f,g,i]))=some y4:=(hfl 4 _ rfl).trans e4
 rw [show Tryz.prog.cellsOf 4=1 by kernel_rfl] at t4
 change DataW.trod enc Tryz.prog W base sp held n 4 [f]=some y4 at t4
 have t5:DataW.trod enc Tryz.prog W base sp held n 22 (List.take (Tryz.prog.cellsOf 22) (List.drop 5 [a,b,c,e,f,g,i]))=some y5:=(hfl 5 _ rfl).trans e5
 rw [show Tryz.prog.cellsOf 22=1 by kernel_rfl] at t5
 change DataW.trod enc Tryz.prog W base sp held n 22 [g]=some y5 at t5
 have t6:DataW.trod enc Tryz.prog W base sp held n 22 (List.take (Tryz.prog.cellsOf 22) (List.drop 6 [a,b,c,e,f,g,i]))=some y6:=(hfl 6 _ rfl).trans e6
 rw [show Tryz.prog.cellsOf 22=1 by kernel_rfl] at t6
 change DataW.trod enc Tryz.prog W base sp held n 22 [i]=some y6 at t6
 obtain ⟨k,hk,_,_⟩:=DataW.trod_string str_under t0
 obtain ⟨cl,hcl,_⟩:=DataW.trod_int int_under t1
 obtain ⟨sq,hsq,_⟩:=DataW.trod_int int_under t2
 obtain ⟨p1,n1,c1,ds,hd,hD⟩:=open_dots t3
 obtain ⟨gone,hg,_⟩:=DataW.trod_bool (by kernel_rfl) t4
 obtain ⟨p2,c2,vs,hv,hV,hVb,b5⟩:=open_bytes t5
 obtain ⟨p3,c3',ss,hs,hS,hSb,b6⟩:=open_bytes t6
 simp only [List.cons.injEq,and_true] at hk hcl hsq hd hg hv hs
 subst hk hcl hsq hd hg hv hs
 exact ⟨⟨k,cl,sq,n1,ds,gone,vs,ss⟩,recV ⟨k,cl,sq,n1,ds,gone,vs,ss⟩ p1 c1 p2 c2 p3 c3',rfl,⟨p1,c1,p2,c2,p3,c3',rfl,hD,hV,hS,b5,b6⟩,⟨hVb,hSb⟩⟩
theorem open_recs {cs:List Value} {x:DataW H × List MemPlace} (h:DataW.trod enc Tryz.prog W base sp held fuel 66 cs=some x) :
  ∃ p c,∃ L:List RecD,cs=[.slice p L.length c]∧L.length≤c∧RecsC [] W p L∧∀ r∈L,BR r.vs∧BR r.ss:=by
 have hN:Tryz.prog.cellsOf 45=7:=by kernel_rfl
 rcases Deep.open_slice recs_under h with ⟨rfl,rfl⟩ | ⟨a,len,cap,m,n,D,Pl,rfl,_,hl,_,hm,rfl,hc⟩
 ·exact ⟨none,0,[],rfl,Nat.le_refl _,(fun h=>absurd h (by simp)),fun r h=>by cases h⟩
 have hlm:len≤m:=by rw [hm];split <;> omega
 rw [hN] at hc
 haveI:Inhabited RecD:=⟨⟨⟨#[]⟩,0,0,0,[],false,[],[]⟩⟩
 have hch:∀ i,i<len→∃ r:RecD,∃ (v:Value) (cs':List Value),W.cells? base (a.add (i*7)) 7=some cs'∧cs'=cellsV v∧RecC [] W v r∧(BR r.vs∧BR r.ss):=fun i hi=>by
  obtain ⟨cs',q1,q2⟩:=hc i (by omega)
  obtain ⟨r,v,e,hF,hb⟩:=open_rec q2
  exact ⟨r,v,cs',q1,e,hF,hb⟩
 obtain ⟨G,hG⟩:=Deep.choose_lt hch
 have hgl:((List.range len).map G).length=len:=by simp
 refine ⟨some a,cap,(List.range len).map G,by rw [hgl],by rw [hgl];exact hl,fun hm2=>?_,fun r hr=>?_⟩
 ·rw [hgl] at hm2
  obtain ⟨v0,cs0,q1,q2,-⟩:=hG 0 hm2
  obtain ⟨_,hcl,hcc⟩:=World.cells?_some q1
  have h0:=hcc 0 (by decide)
  rw [List.getElem?_eq_getElem (by rw [hcl];decide)] at h0
  have hs:a.spot=none:=by simpa [Addr.add] using World.cell?_spot h0
  obtain ⟨b,o,s⟩:=a
  obtain rfl:s=none:=hs
  refine ⟨b,o,rfl,by have:=cell_lt h0;rwa [add_sp,add_sp] at this,by simp,fun i r hr=>?_⟩
  have hi:i<len:=by have:=(List.getElem?_eq_some_iff.1 hr).1;rwa [hgl] at this
  have hr2:r=G i:=by simp [hi] at hr;exact hr.symm
  subst hr2
  obtain ⟨v,cs',k1,k2,k3,-⟩:=hG i hi
  refine ⟨v,k3,fun j u hu=>?_⟩
  obtain ⟨_,hcl',hcc'⟩:=World.cells?_some k1
  have hj:j<7:=by rw [← hcl',k2];exact (List.getElem?_eq_some_iff.1 hu).1
  have:=hcc' j hj
  rw [add_sp,add_sp,k2,hu] at this
  exact this
 obtain ⟨i,hi,rfl⟩:=List.mem_map.1 hr
 have hi2:=List.mem_range.1 hi
 obtain ⟨v,cs',k1,k2,k3,k4⟩:=hG i hi2
 exact k4
set_option maxRecDepth 20000 in
theorem arg_recs {v:Value} {d:DataW H} {ps:List MemPlace} (hval:Value.okWide Tryz.prog W .any base 66 v) (h:DataW.Trod enc Tryz.prog W 0 sp held 66 v d ps):∃ p c,∃ L:List RecD,v=.slice p L.length c∧L.length≤c∧RecsC [] W p L∧∀ r∈L,BR r.vs∧BR r.ss:=by
 obtain ⟨a,len,cap,rfl⟩:=okWide_slice recs_under hval
 obtain ⟨fuel,hf⟩:=h
 obtain ⟨p,c,L,e,h0,h1,h2⟩:=open_recs hf
 simp only [Value.cells,List.cons.injEq,Value.slice.injEq,and_true] at e
 obtain ⟨rfl,rfl,rfl⟩:=e
 exact ⟨_,_,L,rfl,h0,h1,h2⟩
end
end Go.Proofs.YtnopjabcdloepaaGreatDoor.Rc
