import Derived.Test.YtnopjabcdloepaaGreatDoorDa
import Derived.Deep.RegionHeld3
import Derived.Deep.CutRange
namespace Go.Proofs.YtnopjabcdloepaaGreatDoor.Rc
open Go Go.RowKit
theorem smR.ok {r:RecD} (h:smR r) (hv:BR r.vs) (hs:BR r.ss):r.ok:=⟨by have:=h.2.1;omega,by have:=h.1;omega,by have:=h.2.2;omega,hv,hs⟩
theorem GS.ext0 {w w':World} {S:List Nat} {gb:Nat} {L:List RecD} {M:List RootD} (h:GS w.heap.size w' S gb L M) (hb:Below w.heap.size w w'):Ext [] w S w':=by
 obtain ⟨_,_,_,_,_,_,a3,_⟩:=h
 exact ⟨hb.os,hb.tape,hb.output,hb.size,fun k hk _=>hb.block k hk,fun k hk=>.inr (a3 k hk).1⟩
def tfEL (g2 o2 n2 c2 k:Nat) (x:RecD) (X:GrV) (IS:Bool) (B0:Nat):List (Value→World→Prop):=[
 GrP,
 Eq1 (.slice (some ⟨g2,o2,none⟩) n2 c2),
 Eq1 (.int .i64 k),
 Eq1 (.pointer (some ⟨g2,o2+k*7,none⟩)),
 Eq1 (.pointer (some ⟨g2,o2+k*7+1,none⟩)),
 Eq1 (.int .i64 x.cl),
 FgP X IS,
 FgP X IS,
 AgP X,
 Eq1 (.bool IS),
 NewB B0 51 #[.int .i64 0,.slice none 0 0,.string ⟨#[]⟩]]
theorem tfES (g2 o2 n2 c2 k:Nat) (x:RecD) (X:GrV) (IS:Bool) (B0:Nat):∀ j x' q q',(tfEL g2 o2 n2 c2 k x X IS B0).getD j (fun _ _=>True) x' q→Below q.heap.size q q'→(tfEL g2 o2 n2 c2 k x X IS B0).getD j (fun _ _=>True) x' q':=by
 refine sta_all _ ?_
 simp only [tfEL,List.mem_cons,forall_eq_or_imp,List.not_mem_nil,false_implies,implies_true,and_true]
 exact ⟨sta_gr,sta_eq _,sta_eq _,sta_eq _,sta_eq _,sta_eq _,sta_fg _ _,sta_fg _ _,sta_ag _,sta_eq _,sta_new _ _ _⟩
def tfAL  : List (Value→World→Prop):=[
 Eq1 (.bool false),
 Eq1 (.bool false),
 Eq1 (undef),
 Eq1 (undef),
 Eq1 (undef),
 Eq1 (undef),
 Eq1 (undef),
 Eq1 (undef),
 Eq1 (undef),
 Eq1 (undef),
 Eq1 (.bool false),
 Eq1 (.bool false),
 Eq1 (undef),
 Eq1 (undef),
 Eq1 (undef),
 Eq1 (undef),
 Eq1 (undef),
 Eq1 (undef),
 Eq1 (undef),
 Eq1 (.bool false)]
theorem tfAS  : ∀ j x' q q',(tfAL ).getD j (fun _ _=>True) x' q→Below q.heap.size q q'→(tfAL ).getD j (fun _ _=>True) x' q':=by
 refine sta_all _ ?_
 simp only [tfAL,List.mem_cons,forall_eq_or_imp,List.not_mem_nil,false_implies,implies_true,and_true]
 exact ⟨sta_eq _,sta_eq _,sta_eq _,sta_eq _,sta_eq _,sta_eq _,sta_eq _,sta_eq _,sta_eq _,sta_eq _,sta_eq _,sta_eq _,sta_eq _,sta_eq _,sta_eq _,sta_eq _,sta_eq _,sta_eq _,sta_eq _,sta_eq _⟩
def tfBL (g2 o2 n2 c2 k gN:Nat) (x:RecD) (q1:Option Addr) (d1:Nat) (q2:Option Addr) (d2:Nat) (q3:Option Addr) (d3:Nat) (gk ok cA:Nat) (CK:Int):List (Value→World→Prop):=[
 Eq1 (.bool true),
 Eq1 (.bool true),
 Eq1 (.pointer (some ⟨gN,1,none⟩)),
 Eq1 (.slice (some ⟨gk,ok,none⟩) 32 cA),
 Eq1 (.slice (some ⟨g2,o2,none⟩) n2 c2),
 Eq1 (.int .i64 k),
 Eq1 (.pointer (some ⟨g2,o2+k*7,none⟩)),
 Eq1 (.agg #[.string x.k,.int .i64 x.cl,.int .i64 x.sq,.slice q1 x.n d1,.bool x.gone,.slice q2 x.vs.length d2,.slice q3 x.ss.length d3]),
 Eq1 (.int .i64 CK),
 Eq1 (.bool false),
 Eq1 (.bool false),
 Eq1 (.bool false),
 Eq1 (undef),
 Eq1 (undef),
 Eq1 (undef),
 Eq1 (undef),
 Eq1 (undef),
 Eq1 (undef),
 Eq1 (undef),
 Eq1 (.bool false)]
theorem tfBS (g2 o2 n2 c2 k gN:Nat) (x:RecD) (q1:Option Addr) (d1:Nat) (q2:Option Addr) (d2:Nat) (q3:Option Addr) (d3:Nat) (gk ok cA:Nat) (CK:Int):∀ j x' q q',(tfBL g2 o2 n2 c2 k gN x q1 d1 q2 d2 q3 d3 gk ok cA CK).getD j (fun _ _=>True) x' q→Below q.heap.size q q'→(tfBL g2 o2 n2 c2 k gN x q1 d1 q2 d2 q3 d3 gk ok cA CK).getD j (fun _ _=>True) x' q':=by
 refine sta_all _ ?_
 simp only [tfBL,List.mem_cons,forall_eq_or_imp,List.not_mem_nil,false_implies,implies_true,and_true]
 exact ⟨sta_eq _,sta_eq _,sta_eq _,sta_eq _,sta_eq _,sta_eq _,sta_eq _,sta_eq _,sta_eq _,sta_eq _,sta_eq _,sta_eq _,sta_eq _,sta_eq _,sta_eq _,sta_eq _,sta_eq _,sta_eq _,sta_eq _,sta_eq _⟩
def tfCL (g2 o2 n2 c2 k gb gN:Nat) (x:RecD) (q1:Option Addr) (d1:Nat) (q2:Option Addr) (d2:Nat) (q3:Option Addr) (d3:Nat) (gk ok cA:Nat):List (Value→World→Prop):=[
 Eq1 (.bool true),
 Eq1 (.bool true),
 Eq1 (.pointer (some ⟨gN,1,none⟩)),
 Eq1 (.slice (some ⟨gk,ok,none⟩) 32 cA),
 Eq1 (.slice (some ⟨g2,o2,none⟩) n2 c2),
 Eq1 (.int .i64 k),
 Eq1 (.pointer (some ⟨g2,o2+k*7,none⟩)),
 Eq1 (.agg #[.string x.k,.int .i64 x.cl,.int .i64 x.sq,.slice q1 x.n d1,.bool x.gone,.slice q2 x.vs.length d2,.slice q3 x.ss.length d3]),
 Eq1 (.int .i64 0),
 Eq1 (.bool true),
 Eq1 (.bool true),
 Eq1 (.bool true),
 Eq1 (.pointer (some ⟨gb,0,none⟩)),
 Eq1 (.slice (some ⟨g2,o2,none⟩) n2 c2),
 Eq1 (.int .i64 k),
 Eq1 (.pointer (some ⟨g2,o2+k*7,none⟩)),
 Eq1 (.agg #[.string x.k,.int .i64 x.cl,.int .i64 x.sq,.slice q1 x.n d1,.bool x.gone,.slice q2 x.vs.length d2,.slice q3 x.ss.length d3]),
 Eq1 (.bool true),
 Eq1 (.bool false),
 Eq1 (.bool false)]
theorem tfCS (g2 o2 n2 c2 k gb gN:Nat) (x:RecD) (q1:Option Addr) (d1:Nat) (q2:Option Addr) (d2:Nat) (q3:Option Addr) (d3:Nat) (gk ok cA:Nat):∀ j x' q q',(tfCL g2 o2 n2 c2 k gb gN x q1 d1 q2 d2 q3 d3 gk ok cA).getD j (fun _ _=>True) x' q→Below q.heap.size q q'→(tfCL g2 o2 n2 c2 k gb gN x q1 d1 q2 d2 q3 d3 gk ok cA).getD j (fun _ _=>True) x' q':=by
 refine sta_all _ ?_
 simp only [tfCL,List.mem_cons,forall_eq_or_imp,List.not_mem_nil,false_implies,implies_true,and_true]
 exact ⟨sta_eq _,sta_eq _,sta_eq _,sta_eq _,sta_eq _,sta_eq _,sta_eq _,sta_eq _,sta_eq _,sta_eq _,sta_eq _,sta_eq _,sta_eq _,sta_eq _,sta_eq _,sta_eq _,sta_eq _,sta_eq _,sta_eq _,sta_eq _⟩
def tgEL (gR:Nat) (r:RecD) (X:GrV) (IS:Bool) (B0:Nat):List (Value→World→Prop):=[
 GrP,
 Eq1 (.pointer (some ⟨gR,1,none⟩)),
 Eq1 (.int .i64 r.cl),
 FgP X IS,
 FgP X IS,
 AgP X,
 Eq1 (.bool IS),
 NewB B0 51 #[.int .i64 0,.slice none 0 0,.string ⟨#[]⟩]]
theorem tgES (gR:Nat) (r:RecD) (X:GrV) (IS:Bool) (B0:Nat):∀ j x' q q',(tgEL gR r X IS B0).getD j (fun _ _=>True) x' q→Below q.heap.size q q'→(tgEL gR r X IS B0).getD j (fun _ _=>True) x' q':=by
 refine sta_all _ ?_
 simp only [tgEL,List.mem_cons,forall_eq_or_imp,List.not_mem_nil,false_implies,implies_true,and_true]
 exact ⟨sta_gr,sta_eq _,sta_eq _,sta_fg _ _,sta_fg _ _,sta_ag _,sta_eq _,sta_new _ _ _⟩
def thAL  : List (Value→World→Prop):=[
 Eq1 (.bool true),
 Eq1 (.bool true),
 Eq1 (undef),
 Eq1 (undef),
 Eq1 (undef),
 Eq1 (undef),
 Eq1 (undef),
 Eq1 (undef),
 Eq1 (.bool true)]
theorem thAS  : ∀ j x' q q',(thAL ).getD j (fun _ _=>True) x' q→Below q.heap.size q q'→(thAL ).getD j (fun _ _=>True) x' q':=by
 refine sta_all _ ?_
 simp only [thAL,List.mem_cons,forall_eq_or_imp,List.not_mem_nil,false_implies,implies_true,and_true]
 exact ⟨sta_eq _,sta_eq _,sta_eq _,sta_eq _,sta_eq _,sta_eq _,sta_eq _,sta_eq _,sta_eq _⟩
def thBL (g2 o2 n2 c2 k:Nat) (x r:RecD) (q1:Option Addr) (d1:Nat) (q2:Option Addr) (d2:Nat) (q3:Option Addr) (d3:Nat) (s1:Option Addr) (e1:Nat) (s2:Option Addr) (e2:Nat) (s3:Option Addr) (e3:Nat) (SB:Bool):List (Value→World→Prop):=[
 Eq1 (.bool false),
 Eq1 (.bool false),
 Eq1 (.slice (some ⟨g2,o2,none⟩) n2 c2),
 Eq1 (.int .i64 k),
 Eq1 (.pointer (some ⟨g2,o2+k*7,none⟩)),
 Eq1 (.agg #[.string x.k,.int .i64 x.cl,.int .i64 x.sq,.slice s1 x.n e1,.bool x.gone,.slice s2 x.vs.length e2,.slice s3 x.ss.length e3]),
 Eq1 (.agg #[.string r.k,.int .i64 r.cl,.int .i64 r.sq,.slice q1 r.n d1,.bool r.gone,.slice q2 r.vs.length d2,.slice q3 r.ss.length d3]),
 Eq1 (.bool SB),
 Eq1 (.bool SB)]
theorem thBS (g2 o2 n2 c2 k:Nat) (x r:RecD) (q1:Option Addr) (d1:Nat) (q2:Option Addr) (d2:Nat) (q3:Option Addr) (d3:Nat) (s1:Option Addr) (e1:Nat) (s2:Option Addr) (e2:Nat) (s3:Option Addr) (e3:Nat) (SB:Bool):∀ j x' q q',(thBL g2 o2 n2 c2 k x r q1 d1 q2 d2 q3 d3 s1 e1 s2 e2 s3 e3 SB).getD j (fun _ _=>True) x' q→Below q.heap.size q q'→(thBL g2 o2 n2 c2 k x r q1 d1 q2 d2 q3 d3 s1 e1 s2 e2 s3 e3 SB).getD j (fun _ _=>True) x' q':=by
 refine sta_all _ ?_
 simp only [thBL,List.mem_cons,forall_eq_or_imp,List.not_mem_nil,false_implies,implies_true,and_true]
 exact ⟨sta_eq _,sta_eq _,sta_eq _,sta_eq _,sta_eq _,sta_eq _,sta_eq _,sta_eq _,sta_eq _⟩
set_option maxRecDepth 20000 in
set_option maxHeartbeats 8000000 in
theorem tells_c (p1:Option Addr) (n1 c1:Nat) (A:List RecD) (p2:Option Addr) (n2 c2:Nat) (R:List RecD) (hn1:n1=A.length) (hn2:n2=R.length) (hbA:∀ r∈A,BR r.vs∧BR r.ss) (hbR:∀ r∈R,BR r.vs∧BR r.ss) (w:World) (hA:RecsC [] w p1 A) (hR:RecsC [] w p2 R) (hS:ShP w) (hCv:CvP w) :
  Calls Tryz.prog 12 #[.slice p1 n1 c1,.slice p2 n2 c2] w (PostV (.bool true) w):=by
 have hB:=hS.lt
 have haw:=Lib.hid (awake29_c w hS hCv)
 have hlA:=Lib.hid (fun w1 (hb:Below w.heap.size w w1)=>light_c p1 n1 c1 A hn1 w1 (hA.ext (.below hb)))
 have hlR:=Lib.hid (fun w1 (hb:Below w.heap.size w w1)=>light_c p2 n2 c2 R hn2 w1 (hR.ext (.below hb)))
 replace hn1:=Lib.hid hn1
 replace hn2:=Lib.hid hn2
 replace hbA:=Lib.hid hbA
 replace hbR:=Lib.hid hbR
 replace hA:=Lib.hid hA
 replace hR:=Lib.hid hR
 replace hS:=Lib.hid hS
 replace hCv:=Lib.hid hCv
 replace hB:=Lib.hid hB
 go_enter Tryz.func12,Tryz.ntmps12
 go_wp2_with fail
 refine haw.out.mono ?_
 rintro e w1 ⟨rfl,hb1⟩
 clear haw
 go_wp2_with fail
 refine (hlA.out w1 hb1).mono ?_
 rintro e w2 ⟨⟨b1,rfl,hA1⟩,hb⟩
 have hb2:=hb1.trans (hb.mono hb1.size)
 clear hb hb1 hlA
 cases b1 with
 | false =>
  go_wp2_with fail
  go_returns
  exact ⟨rfl,hb2⟩
 | true =>
 obtain ⟨hA10,hAs⟩:=hA1 rfl
 clear hA1
 replace hA10:=Lib.hid hA10
 replace hAs:=Lib.hid hAs
 go_wp2_with fail
 refine (hlR.out w2 hb2).mono ?_
 rintro e w3 ⟨⟨b1,rfl,hR1⟩,hb⟩
 have hb3:=hb2.trans (hb.mono hb2.size)
 clear hb hb2 hlR
 cases b1 with
 | false =>
  go_wp2_with fail
  go_returns
  exact ⟨rfl,hb3⟩
 | true =>
 obtain ⟨hR10,hRs⟩:=hR1 rfl
 clear hR1
 replace hR10:=Lib.hid hR10
 replace hRs:=Lib.hid hRs
 go_wp2_with fail
 refine (new_c _).mono ?_
 rintro e w4 ⟨gb,S,rfl,hGS,hb⟩
 have hb4:=hb3.trans (hb.mono hb3.size)
 have hE4:=hGS.ext0 hb
 have hBs:=Lib.hid hb.size
 have hGS':=Lib.hid hGS
 have hlow:=Lib.hid (show ∀ k,k∈S→w.heap.size≤k from fun k hk=>(hE4.sub k hk).elim (fun h=>by cases h) (Nat.le_trans hb3.size))
 have hR4:=Lib.hid ((hR.out.ext (.below hb3)).ext hE4)
 have hA4:=Lib.hid ((hA.out.ext (.below hb3)).ext hE4)
 clear hb hGS hE4 hb3
 go_wp2_with fail
 have hokA:=fun r (hr:r∈A)=>(hAs.out r hr).ok (hbA.out r hr).1 (hbA.out r hr).2
 refine (gWrote_c w3.heap.size gb S [] [] p1 n1 c1 A hn1.out hokA (by have:=hA10.out;have:=hn1.out;simp;omega) w4 hBs.out hGS'.out hA4.out.f).mono ?_
 rintro e w5 ⟨rfl,S5,hG5,hE5⟩
 obtain ⟨LG,hLG⟩:∃ LG,LG=putsT recT [] A:=⟨_,rfl⟩
 rw [← hLG] at hG5
 clear hLG hokA
 have hb5:=hb4.trans (hE5.old hb4.size hlow.out)
 have hR5:=Lib.hid (hR4.out.ext hE5)
 replace hG5:=Lib.hid hG5
 clear hE5 hb4 hR4 hA4 hlow hGS' hBs
 go_wp2_with fail
 refine (grants29_c w5 (hS.out.below hb5 hB.out) (hCv.out.below hb5 hCv.out.lt)).mono ?_
 rintro e w6 ⟨pg,cg,G4,rfl,hg4,hGA,hb⟩
 have hb6:=hb5.trans (hb.mono hb5.size)
 have hG6:=Lib.hid (hG5.out.below hb)
 have hR6:=Lib.hid ((hR5.out.ext (.below hb)).ext (.of (Below.refl _ _) (fun k h=>by cases h):Ext S5 w6 [] w6))
 have hokR:=Lib.hid (fun r (hr:r∈R)=>(hRs.out r hr).ok (hbR.out r hr).1 (hbR.out r hr).2)
 clear hb hb5 hG5 hR5
 go_wp2_with fail
 refine (Forged_c pg cg G4 hg4 w3.heap.size gb S5 LG [] p2 n2 c2 R hn2.out (by have:=hR10.out;omega) hokR.out w6 hGA hG6.out hR6.out (hS.out.below hb6 hB.out) (hCv.out.below hb6 hCv.out.lt)).mono ?_
 rintro e w7 ⟨q1,d1,q2,d2,q3,d3,rfl,o1,o2,o3,hb⟩
 have hb7:=hb6.trans (hb.mono hb6.size)
 have hG7:=Lib.hid (hG6.out.below hb)
 have hR7:=Lib.hid (hR6.out.ext (.below hb))
 clear hb hb6 hG6 hR6 hGA hg4
 cases hfi:R.find? (fB4 LG) with
 | none =>
  have hno:=Lib.hid hfi
  have ef:foR LG R=rec0:=by unfold foR;rw [hfi];rfl
  rw [ef] at o1 o2 o3 ⊢
  clear ef hfi
  replace o1:=Lib.hid o1
  replace o2:=Lib.hid o2
  replace o3:=Lib.hid o3
  go_wp2_with fail
  refine at_world (fun W8 hW=>?_)
  have hb:Below w7.heap.size w7 W8:=by rw [hW];go_grown
  have hG8:=Lib.hid (hG7.out.below hb)
  have hR8:=Lib.hid (hR7.out.ext (.below hb))
  have hb8:=hb7.trans (hb.mono hb7.size)
  clear hW hb hb7 hG7 hR7 o1 o2 o3
  go_loopw [12] (fun i wr=>∃ k:Nat,k≤n2∧i=.int .i64 k∧Below W8.heap.size W8 wr) (fun i _=>(n2-intOf i).toNat)
  case atStart=>exact ⟨0,by omega,rfl,Below.refl _ _⟩
  case round =>
   obtain ⟨k,hk,rfl,hb⟩:=hrel
   have hb9:=hb8.trans (hb.mono hb8.size)
   by_cases he:k=n2
   ·subst he
    have hP:=Lib.hid hb9
    clear hb hb9 hb8
    go_wp2_with fail
    go_returns
    exact ⟨rfl,hP.out⟩
   have hkl:k<R.length:=by have:=hn2.out;omega
   obtain ⟨x,hx⟩:∃ x,R[k]?=some x:=⟨_,List.getElem?_eq_getElem hkl⟩
   have hfx:=Lib.hid (show fB4 LG x=false from by
    have:=List.find?_eq_none.1 hno.out x (List.mem_of_getElem? hx)
    simpa using this)
   have hxo:=Lib.hid (hokR.out x (List.mem_of_getElem? hx))
   have hk10:(k:Int)<10:=by have:=hR10.out;omega
   obtain ⟨g2,o2,rfl,hg2,q1,d1,q2,d2,q3,d3,hrec,y0,y1,y2,y3,y4,y5,y6⟩:=(hR8.out.ext (.below hb)).get hx
   obtain ⟨X,hX⟩:∃ X,X=frX x.cl:=⟨_,rfl⟩
   obtain ⟨IS,hI⟩:∃ I,I=frI x.cl:=⟨_,rfl⟩
   have cG:=Lib.hid (fun w1 (hb2:Below wr.heap.size wr w1)=>grants29_c w1 (hS.out.below (hb9.trans (hb2.mono hb9.size)) hB.out) (hCv.out.below (hb9.trans (hb2.mono hb9.size)) hCv.out.lt))
   have cF:=Lib.hid (fun (L:List GrV) p c w1 (h4:Gr4 L) (hG:GsAt w1 p L)=>show Calls Tryz.prog 43 #[.slice p 4 c,.int .i64 x.cl] w1 (PostFg X IS w1) from by rw [hX,hI];exact Find4 h4 p c x.cl w1 hG)
   have j0:(0:Int)≤(k:Int):=by omega
   have j1:(k:Int)<(n2:Int):=by omega
   have j2:k<n2:=by omega
   have hSS:=Lib.hid (fun w' (hb2:Below wr.heap.size wr w')=>(⟨(hb2.cell (p:=⟨g2,o2+k*7+1,none⟩) hg2).trans y1,trivial⟩:w'.cell? ⟨g2,o2+k*7+1,none⟩=some (.int .i64 x.cl)∧True))
   replace hX:=Lib.hid hX
   replace hI:=Lib.hid hI
   replace hx:=Lib.hid hx
   have hrec':=Lib.hid hrec
   have hg2':=Lib.hid hg2
   have hy:=Lib.hid (⟨y0,y1,y2,y3,y4,y5,y6⟩:wr.cell? ⟨g2,o2+k*7,none⟩=some (.string x.k)∧wr.cell? ⟨g2,o2+k*7+1,none⟩=some (.int .i64 x.cl)∧wr.cell? ⟨g2,o2+k*7+2,none⟩=some (.int .i64 x.sq)∧wr.cell? ⟨g2,o2+k*7+3,none⟩=some (.slice q1 x.n d1)∧wr.cell? ⟨g2,o2+k*7+4,none⟩=some (.bool x.gone)∧wr.cell? ⟨g2,o2+k*7+5,none⟩=some (.slice q2 x.vs.length d2)∧wr.cell? ⟨g2,o2+k*7+6,none⟩=some (.slice q3 x.ss.length d3))
   have hb9':=Lib.hid hb9
   have hbr:=Lib.hid hb
   clear y0 y1 y2 y3 y4 y5 y6 hrec hb hb9 he
   go_upto_region 19 with fail
   go_cut [13,14] from 85 to 94 (fun p c wx=>∃ (gN:Nat) (qA:Option Addr) (cA:Nat),p=.pointer (some ⟨gN,0,none⟩)∧c=.bool IS∧wr.heap.size≤gN∧Blk wx gN 51 #[.int .i64 X.cl,.slice qA X.pub.length cA,.string X.pre]∧wx.ownsRow 0 5 1 (.slice qA X.pub.length cA) X.pub.length (bL X.pub)∧Below wr.heap.size wr wx)
   case first =>
    refine wp_region_grow6 11 9 (fun k=>Nat.beq k 13||(Nat.ble 85 k&&Nat.ble k 94)) _ [] (fun j x' q=>(tfEL g2 o2 n2 c2 k x X IS wr.heap.size).getD j (fun _ _=>True) x' q) (fun j=>j==10) (fun f=>#[_,.slice (some ⟨g2,o2,none⟩) n2 c2,_,_,_,_,_,_,_,_,_,_,.int .i64 k,f 13,_,_,_,_,_,_,_,_,_,_,_,_,_,_,_,_,_,_,_,_,_,_,_,_,_,_,_,_,_,_,_,_,_,_,_,_,_,_,_,_,_,_,_,_,_,_,_,_,_,_,_,_,_,_,_,_,_,_,_,_,_,_,_,_,_,_,_,_,_,_,_,f 85,f 86,f 87,f 88,f 89,f 90,f 91,f 92,f 93,f 94,_,_,_,_,_,_,_,_,_,_,_,_,_,_,_,_,_,_,_,_]) (fun f=>rfl) (by decide) (by kernel_rfl) (by kernel_rfl) (by kernel_rfl) (by kernel_rfl) (by kernel_rfl) (tfES _ _ _ _ _ _ _ _ _) ?_ ?_ ?_
    ·refine steps2_cons ?_ ?_
     ·intro f w1 hb hd Q hK
      clear hd
      have hK:=Lib.hid hK
      go_wp2_with fail
      refine (cG.out _ hb).mono ?_
      rintro e w2 ⟨p,c,L,rfl,h4,hg,hb2⟩
      replace h4:=Lib.hid h4
      replace hg:=Lib.hid hg
      go_wp2
      exact hK.out _ _ ⟨_,_,_,rfl,h4.out,hg.out⟩ hb2 nof
     refine steps2_cons ?_ ?_
     ·intro f w1 hb hd Q hK
      clear hd
      have hK:=Lib.hid hK
      go_wp2
      exact hK.out _ _ rfl (.refl _ _) nof
     refine steps2_cons ?_ ?_
     ·intro f w1 hb hd Q hK
      clear hd
      have hK:=Lib.hid hK
      go_wp2
      exact hK.out _ _ rfl (.refl _ _) nof
     refine steps2_cons ?_ ?_
     ·intro f w1 hb hd Q hK
      have e87:f 87=.slice (some ⟨g2,o2,none⟩) n2 c2:=hd.1 rfl
      have e88:f 88=.int .i64 k:=hd.2.1 rfl
      clear hd
      simp only [e87,e88] at hK
      have hK:=Lib.hid hK
      go_wp2
      exact hK.out _ _ rfl (.refl _ _) nof
     refine steps2_cons ?_ ?_
     ·intro f w1 hb hd Q hK
      have e89:f 89=.pointer (some ⟨g2,o2+k*7,none⟩):=hd.1 rfl
      clear hd
      simp only [e89] at hK
      have hK:=Lib.hid hK
      go_wp2
      exact hK.out _ _ rfl (.refl _ _) nof
     refine steps2_cons ?_ ?_
     ·intro f w1 hb hd Q hK
      have e90:f 90=.pointer (some ⟨g2,o2+k*7+1,none⟩):=hd.1 rfl
      clear hd
      simp only [e90] at hK
      have hK:=Lib.hid hK
      have c0:=(hSS.out _ hb).1
      go_wp2
      exact hK.out _ _ rfl (.refl _ _) nof
     refine steps2_cons ?_ ?_
     ·intro f w1 hb hd Q hK
      obtain ⟨p86,c86,L86,e86,h86,q86⟩:=(hd.1 rfl:GrP (f 86) w1)
      replace h86:=Lib.hid h86
      replace q86:=Lib.hid q86
      have e91:f 91=.int .i64 x.cl:=hd.2.1 rfl
      clear hd
      simp only [e86,e91] at hK
      have hK:=Lib.hid hK
      go_wp2_with fail
      refine (cF.out L86 p86 c86 _ h86.out q86.out).mono ?_
      rintro e w2 ⟨q,c,rfl,ho,hb2⟩
      replace ho:=Lib.hid (own_mono ho (Nat.zero_le _))
      go_wp2
      exact hK.out _ _ ⟨_,_,rfl,ho.out⟩ hb2 nof
     refine steps2_cons ?_ ?_
     ·intro f w1 hb hd Q hK
      obtain ⟨q92,c92,e92,o92⟩:=(hd.1 rfl:FgP X IS (f 92) w1)
      replace o92:=Lib.hid o92
      clear hd
      simp only [e92] at hK
      have hK:=Lib.hid hK
      go_wp2
      exact hK.out _ _ ⟨_,_,rfl,o92.out⟩ (.refl _ _) nof
     refine steps2_cons ?_ ?_
     ·intro f w1 hb hd Q hK
      obtain ⟨q85,c85,e85,o85⟩:=(hd.1 rfl:FgP X IS (f 85) w1)
      replace o85:=Lib.hid o85
      clear hd
      simp only [e85] at hK
      have hK:=Lib.hid hK
      go_wp2
      exact hK.out _ _ ⟨_,_,rfl,o85.out⟩ (.refl _ _) nof
     refine steps2_cons ?_ ?_
     ·intro f w1 hb hd Q hK
      obtain ⟨q85,c85,e85,o85⟩:=(hd.1 rfl:FgP X IS (f 85) w1)
      replace o85:=Lib.hid o85
      clear hd
      simp only [e85] at hK
      have hK:=Lib.hid hK
      go_wp2
      exact hK.out _ _ rfl (.refl _ _) nof
     refine steps2_cons ?_ ?_
     ·intro f w1 hb hd Q hK
      clear hd
      have hK:=Lib.hid hK
      have hsz:=hb.size
      go_wp2
      exact hK.out _ _ ⟨_,rfl,hsz,Blk.new _ _ _⟩ ((Below.refl _ _).alloc (Nat.le_refl _) _) (fun _=>⟨_,rfl,Nat.le_refl _⟩)
     trivial
    ·intro f w1 hb hf
     obtain ⟨qA,cA,eA,oA⟩:AgP X (f 93) w1:=hf 8 _ _ (by decide) rfl rfl
     have eI:f 94=.bool IS:=hf 9 _ _ (by decide) rfl rfl
     obtain ⟨gN,dN,loN,bkN⟩:NewB wr.heap.size 51 #[.int .i64 0,.slice none 0 0,.string ⟨#[]⟩] (f 13) w1:=hf 10 _ _ (by decide) rfl rfl
     simp only [eA,eI,dN]
     clear hf
     replace oA:=Lib.hid oA
     replace hb:=Lib.hid hb
     have kN:=Lib.hid bkN
     refine stGr rfl rfl rfl rfl bkN rfl (by kernel_rfl) ?_
     intro w5 hnew hgr hsz
     have hbS:=Lib.hid (hb.out.grown hgr hb.out.size (fun kk hk=>by have:gN=kk:=Option.some.inj hk;omega))
     have oS:=Lib.hid (own_other oA.out kN.out (by decide) hgr)
     clear hgr kN bkN oA hb
     go_wp2
     go_meet
     case rel=>exact ⟨gN,qA,cA,rfl,rfl,loN,hnew,oS.out,hbS.out⟩
    intro f w1 hb hf on oe hon hoe
    cases hon
    cases hoe
    obtain ⟨qA,cA,eA,oA⟩:AgP X (f 93) w1:=hf 8 _ _ (by decide) (by decide) rfl rfl
    obtain ⟨qT,cT,eI,oT⟩:FgP X IS (f 85) w1:=hf 7 _ _ (by decide) (by decide) rfl rfl
    obtain ⟨gN,dN,loN,bkN⟩:NewB wr.heap.size 51 #[.int .i64 0,.slice none 0 0,.string ⟨#[]⟩] (f 13) w1:=hf 10 _ _ (by decide) (by decide) rfl rfl
    simp only [eA,eI,dN]
    clear hf
    replace oA:=Lib.hid oA
    replace hb:=Lib.hid hb
    have kN:=Lib.hid bkN
    refine stGr rfl rfl rfl rfl bkN rfl (by kernel_rfl) ?_
    intro w5 hnew hgr hsz
    have hbS:=Lib.hid (hb.out.grown hgr hb.out.size (fun kk hk=>by have:gN=kk:=Option.some.inj hk;omega))
    have oS:=Lib.hid (own_other oA.out kN.out (by decide) hgr)
    clear hgr kN bkN oA hb
    go_wp2
    go_meet
    case rel=>exact ⟨gN,qA,cA,rfl,rfl,loN,hnew,oS.out,hbS.out⟩
   case rest =>
    obtain ⟨gN,qA,cA,hp13,hc14,loN,kF,oF,hb2⟩:=hcut
    subst hp13 hc14
    clear cG cF hSS
    go_upto_region 20 with fail
    refine at_world (fun W9 hW=>?_)
    rw [← hW] at kF oF hb2
    clear hW
    have hs10:=Lib.hid (show w.heap.size≤W9.heap.size from Nat.le_trans hb9'.out.size hb2.size)
    have hbx10:=Lib.hid (hbr.out.trans (hb2.mono hbr.out.size))
    have hsx10:=Lib.hid hbx10.out.size
    have hb10:=Lib.hid (hb9'.out.trans (hb2.mono hb9'.out.size))
    have hI':=hI.out
    cases IS with
    | false =>
     clear hI'
     have e0:=Lib.hid hb2
     clear hb2 kF oF
     refine wp_region_grow5 20 (fun k=>(Nat.ble 95 k&&Nat.ble k 114)) _ [] (fun a b=>Below a.heap.size a b) (Below.refl _ _).drew below_tr (fun j x' q=>(tfAL ).getD j (fun _ _=>True) x' q) (fun _=>false) (fun f=>#[_,.slice (some ⟨g2,o2,none⟩) n2 c2,_,_,_,.pointer (some ⟨gb,0,none⟩),_,_,_,_,_,_,.int .i64 k,.pointer (some ⟨gN,0,none⟩),.bool false,_,_,_,_,_,_,_,_,_,_,_,_,_,_,_,_,_,_,_,_,_,_,_,_,_,_,_,_,_,_,_,_,_,_,_,_,_,_,_,_,_,_,_,_,_,_,_,_,_,_,_,_,_,_,_,_,_,_,_,_,_,_,_,_,_,_,_,_,_,_,_,_,_,_,_,_,_,_,_,_,f 95,f 96,f 97,f 98,f 99,f 100,f 101,f 102,f 103,f 104,f 105,f 106,f 107,f 108,f 109,f 110,f 111,f 112,f 113,f 114]) (fun f=>rfl) (by kernel_rfl) (by kernel_rfl) (by kernel_rfl) (by kernel_rfl) (by kernel_rfl) (tfAS ) (fun _ _ _ h=>by cases h) ?_ ?_
     ·refine steps5_cons ?_ ?_
      ·intro f w1 hb hd Q hK
       clear hd
       have hK:=Lib.hid hK
       go_wp2
       exact hK.out _ _ rfl (.refl _ _) nof
      refine steps5_cons ?_ ?_
      ·intro f w1 hb hd Q hK
       have e95:f 95=.bool false:=hd.1 rfl
       clear hd
       simp only [e95] at hK
       have hK:=Lib.hid hK
       go_wp2
       exact hK.out _ _ rfl (.refl _ _) nof
      refine steps5_cons ?_ ?_
      ·intro f w1 hb hd Q hK
       have e96:f 96=.bool false:=hd.1 rfl
       clear hd
       simp only [e96] at hK
       have hK:=Lib.hid hK
       go_wp2
       exact hK.out _ _ rfl (.refl _ _) nof
      refine steps5_cons ?_ ?_
      ·intro f w1 hb hd Q hK
       have e97:f 97=undef:=hd.1 rfl
       have e96:f 96=.bool false:=hd.2.1 rfl
       clear hd
       simp only [e97,e96] at hK
       have hK:=Lib.hid hK
       go_wp2
       exact hK.out _ _ rfl (.refl _ _) nof
      refine steps5_cons ?_ ?_
      ·intro f w1 hb hd Q hK
       have e96:f 96=.bool false:=hd.1 rfl
       clear hd
       simp only [e96] at hK
       have hK:=Lib.hid hK
       go_wp2
       exact hK.out _ _ rfl (.refl _ _) nof
      refine steps5_cons ?_ ?_
      ·intro f w1 hb hd Q hK
       have e96:f 96=.bool false:=hd.1 rfl
       clear hd
       simp only [e96] at hK
       have hK:=Lib.hid hK
       go_wp2
       exact hK.out _ _ rfl (.refl _ _) nof
      refine steps5_cons ?_ ?_
      ·intro f w1 hb hd Q hK
       have e99:f 99=undef:=hd.1 rfl
       have e100:f 100=undef:=hd.2.1 rfl
       have e96:f 96=.bool false:=hd.2.2.1 rfl
       clear hd
       simp only [e99,e100,e96] at hK
       have hK:=Lib.hid hK
       go_wp2
       exact hK.out _ _ rfl (.refl _ _) nof
      refine steps5_cons ?_ ?_
      ·intro f w1 hb hd Q hK
       have e101:f 101=undef:=hd.1 rfl
       have e96:f 96=.bool false:=hd.2.1 rfl
       clear hd
       simp only [e101,e96] at hK
       have hK:=Lib.hid hK
       go_wp2
       exact hK.out _ _ rfl (.refl _ _) nof
      refine steps5_cons ?_ ?_
      ·intro f w1 hb hd Q hK
       have e98:f 98=undef:=hd.1 rfl
       have e102:f 102=undef:=hd.2.1 rfl
       have e96:f 96=.bool false:=hd.2.2.1 rfl
       clear hd
       simp only [e98,e102,e96] at hK
       have hK:=Lib.hid hK
       go_wp2
       exact hK.out _ _ rfl (.refl _ _) nof
      refine steps5_cons ?_ ?_
      ·intro f w1 hb hd Q hK
       have e103:f 103=undef:=hd.1 rfl
       have e96:f 96=.bool false:=hd.2.1 rfl
       clear hd
       simp only [e103,e96] at hK
       have hK:=Lib.hid hK
       go_wp2
       exact hK.out _ _ rfl (.refl _ _) nof
      refine steps5_cons ?_ ?_
      ·intro f w1 hb hd Q hK
       have e96:f 96=.bool false:=hd.1 rfl
       have e104:f 104=undef:=hd.2.1 rfl
       clear hd
       simp only [e96,e104] at hK
       have hK:=Lib.hid hK
       go_wp2
       exact hK.out _ _ rfl (.refl _ _) nof
      refine steps5_cons ?_ ?_
      ·intro f w1 hb hd Q hK
       have e105:f 105=.bool false:=hd.1 rfl
       clear hd
       simp only [e105] at hK
       have hK:=Lib.hid hK
       go_wp2
       exact hK.out _ _ rfl (.refl _ _) nof
      refine steps5_cons ?_ ?_
      ·intro f w1 hb hd Q hK
       have e106:f 106=.bool false:=hd.1 rfl
       clear hd
       simp only [e106] at hK
       have hK:=Lib.hid hK
       go_wp2
       exact hK.out _ _ rfl (.refl _ _) nof
      refine steps5_cons ?_ ?_
      ·intro f w1 hb hd Q hK
       have e106:f 106=.bool false:=hd.1 rfl
       clear hd
       simp only [e106] at hK
       have hK:=Lib.hid hK
       go_wp2
       exact hK.out _ _ rfl (.refl _ _) nof
      refine steps5_cons ?_ ?_
      ·intro f w1 hb hd Q hK
       have e106:f 106=.bool false:=hd.1 rfl
       clear hd
       simp only [e106] at hK
       have hK:=Lib.hid hK
       go_wp2
       exact hK.out _ _ rfl (.refl _ _) nof
      refine steps5_cons ?_ ?_
      ·intro f w1 hb hd Q hK
       have e108:f 108=undef:=hd.1 rfl
       have e109:f 109=undef:=hd.2.1 rfl
       have e106:f 106=.bool false:=hd.2.2.1 rfl
       clear hd
       simp only [e108,e109,e106] at hK
       have hK:=Lib.hid hK
       go_wp2
       exact hK.out _ _ rfl (.refl _ _) nof
      refine steps5_cons ?_ ?_
      ·intro f w1 hb hd Q hK
       have e110:f 110=undef:=hd.1 rfl
       have e106:f 106=.bool false:=hd.2.1 rfl
       clear hd
       simp only [e110,e106] at hK
       have hK:=Lib.hid hK
       go_wp2
       exact hK.out _ _ rfl (.refl _ _) nof
      refine steps5_cons ?_ ?_
      ·intro f w1 hb hd Q hK
       have e107:f 107=undef:=hd.1 rfl
       have e111:f 111=undef:=hd.2.1 rfl
       have e106:f 106=.bool false:=hd.2.2.1 rfl
       clear hd
       simp only [e107,e111,e106] at hK
       have hK:=Lib.hid hK
       go_wp2
       exact hK.out _ _ rfl (.refl _ _) nof
      refine steps5_cons ?_ ?_
      ·intro f w1 hb hd Q hK
       have e112:f 112=undef:=hd.1 rfl
       have e106:f 106=.bool false:=hd.2.1 rfl
       clear hd
       simp only [e112,e106] at hK
       have hK:=Lib.hid hK
       go_wp2
       exact hK.out _ _ rfl (.refl _ _) nof
      refine steps5_cons ?_ ?_
      ·intro f w1 hb hd Q hK
       have e106:f 106=.bool false:=hd.1 rfl
       have e113:f 113=undef:=hd.2.1 rfl
       clear hd
       simp only [e106,e113] at hK
       have hK:=Lib.hid hK
       go_wp2
       exact hK.out _ _ rfl (.refl _ _) nof
      trivial
     intro f w1 hb hf hne
     refine wpList_nil ?_
     have d114:f 114=.bool false:=hf 19 _ _ (by decide) rfl rfl
     simp only [d114]
     have hP:=Lib.hid (hbx10.out.trans (hb.mono hsx10.out))
     clear hf hne d114 hb
     go_wp2
     exact ⟨⟨k+1,by omega,by simp,hP.out⟩,by simp [intOf];omega⟩
    | true =>
     have h14:1≤x.cl∧x.cl≤4:=of_decide_eq_true (show decide (1≤x.cl∧x.cl≤4)=true from hI'.symm)
     obtain ⟨K,hK⟩:∃ K,K=fL 32 (kyB x.cl.toNat):=⟨_,rfl⟩
     have hXp:X.pub=K:=by rw [hX.out,hK];unfold frX;rw [if_pos h14]
     have hK32:K.length=32:=by rw [hK,fL_len]
     have hKb:BR K:=by rw [hK];exact fL_br (key_byt _)
     rw [hXp] at kF oF
     obtain ⟨q2',c2',e2,hc2,hbx⟩:=own_pv oF
     obtain ⟨rfl,e3,rfl⟩:qA=q2'∧K.length=K.length∧cA=c2':=by injection e2 with a1 a2 a3;exact ⟨a1,a2,a3⟩
     rw [hK32] at hc2 hbx kF
     obtain ⟨gk,ok,rfl,lk,-,hk⟩:=hbx (by decide)
     have hKc:=Lib.hid (fun w' (hb:Below W9.heap.size W9 w')=>((kF.below hb).cell 1:w'.cell? ⟨gN,1,none⟩=some (.slice (some ⟨gk,ok,none⟩) 32 cA)))
     have hRC:=Lib.hid (fun w' (hb:Below W9.heap.size W9 w')=>have hb':=hb2.trans (hb.mono hb2.size);(⟨(hb'.cell (p:=⟨g2,_,none⟩) hg2'.out).trans hy.out.1,(hb'.cell (p:=⟨g2,_,none⟩) hg2'.out).trans hy.out.2.1,(hb'.cell (p:=⟨g2,_,none⟩) hg2'.out).trans hy.out.2.2.1,(hb'.cell (p:=⟨g2,_,none⟩) hg2'.out).trans hy.out.2.2.2.1,(hb'.cell (p:=⟨g2,_,none⟩) hg2'.out).trans hy.out.2.2.2.2.1,(hb'.cell (p:=⟨g2,_,none⟩) hg2'.out).trans hy.out.2.2.2.2.2.1,(hb'.cell (p:=⟨g2,_,none⟩) hg2'.out).trans hy.out.2.2.2.2.2.2⟩:w'.cell? ⟨g2,o2+k*7,none⟩=some (.string x.k)∧w'.cell? ⟨g2,o2+k*7+1,none⟩=some (.int .i64 x.cl)∧w'.cell? ⟨g2,o2+k*7+2,none⟩=some (.int .i64 x.sq)∧w'.cell? ⟨g2,o2+k*7+3,none⟩=some (.slice q1 x.n d1)∧w'.cell? ⟨g2,o2+k*7+4,none⟩=some (.bool x.gone)∧w'.cell? ⟨g2,o2+k*7+5,none⟩=some (.slice q2 x.vs.length d2)∧w'.cell? ⟨g2,o2+k*7+6,none⟩=some (.slice q3 x.ss.length d3)))
     obtain ⟨CK,hCK⟩:∃ CK,CK=ckR (gB K) x:=⟨_,rfl⟩
     have hF:=hfx.out
     unfold fB4 at hF
     rw [decide_eq_true h14,Bool.true_and,← hK,← hCK] at hF
     have cK:=Lib.hid (fun w' (hb:Below W9.heap.size W9 w')=>have hb':=hb2.trans (hb.mono hb2.size);have hb'':=hb10.out.trans (hb.mono hb10.out.size);show Calls Tryz.prog 66 #[.slice (some ⟨gk,ok,none⟩) 32 cA,.agg #[.string x.k,.int .i64 x.cl,.int .i64 x.sq,.slice q1 x.n d1,.bool x.gone,.slice q2 x.vs.length d2,.slice q3 x.ss.length d3]] w' (PostV (.int .i64 CK) w') from by
      rw [hCK]
      exact Check_any (gB K) (gB_byt hKb) gk ok cA hc2 x hxo.out q1 d1 q2 d2 q3 d3 hrec'.out.2.2.2.2 w' (Nat.lt_of_lt_of_le lk hb.size) (fun j hj=>(hb.cell (p:=⟨gk,ok+j,none⟩) lk).trans (hk j hj)) (hrec'.out.1.d.below hb') (hrec'.out.2.1.b.below hb') (hrec'.out.2.2.1.b.below hb') (hS.out.below hb'' hB.out) (hCv.out.below hb'' hCv.out.lt))
     obtain ⟨HH,hHH⟩:∃ HH,HH=hasT recT LG (recT x):=⟨_,rfl⟩
     rw [← hHH] at hF
     have cH:=Lib.hid (fun w' (hb:Below W9.heap.size W9 w')=>have hb':=hb2.trans (hb.mono hb2.size);show Calls Tryz.prog 83 #[.pointer (some ⟨gb,0,none⟩),.agg #[.string x.k,.int .i64 x.cl,.int .i64 x.sq,.slice q1 x.n d1,.bool x.gone,.slice q2 x.vs.length d2,.slice q3 x.ss.length d3]] w' (PostV (.bool HH) w') from by
      rw [hHH]
      exact gHas_c w3.heap.size gb S5 LG [] x (recV x q1 d1 q2 d2 q3 d3) hxo.out w' (hG8.out.below (hbr.out.trans (hb'.mono hbr.out.size))) ⟨q1,d1,q2,d2,q3,d3,rfl,hrec'.out.1.ext (.below hb'),hrec'.out.2.1.ext (.below hb'),hrec'.out.2.2.1.ext (.below hb')⟩)
     clear hb2 kF oF e2 hbx hk hXp hKb hK hHH hCK hI' h14 lk
     by_cases h0:CK=0
     ·subst h0
      have hHt:HH=true:=by simpa using hF
      subst hHt
      clear hF
      refine wp_region_grow5 20 (fun k=>(Nat.ble 95 k&&Nat.ble k 114)) _ [] (fun a b=>Below a.heap.size a b) (Below.refl _ _).drew below_tr (fun j x' q=>(tfCL g2 o2 n2 c2 k gb gN x q1 d1 q2 d2 q3 d3 gk ok cA).getD j (fun _ _=>True) x' q) (fun _=>false) (fun f=>#[_,.slice (some ⟨g2,o2,none⟩) n2 c2,_,_,_,.pointer (some ⟨gb,0,none⟩),_,_,_,_,_,_,.int .i64 k,.pointer (some ⟨gN,0,none⟩),.bool true,_,_,_,_,_,_,_,_,_,_,_,_,_,_,_,_,_,_,_,_,_,_,_,_,_,_,_,_,_,_,_,_,_,_,_,_,_,_,_,_,_,_,_,_,_,_,_,_,_,_,_,_,_,_,_,_,_,_,_,_,_,_,_,_,_,_,_,_,_,_,_,_,_,_,_,_,_,_,_,_,f 95,f 96,f 97,f 98,f 99,f 100,f 101,f 102,f 103,f 104,f 105,f 106,f 107,f 108,f 109,f 110,f 111,f 112,f 113,f 114]) (fun f=>rfl) (by kernel_rfl) (by kernel_rfl) (by kernel_rfl) (by kernel_rfl) (by kernel_rfl) (tfCS _ _ _ _ _ _ _ _ _ _ _ _ _ _ _ _ _) (fun _ _ _ h=>by cases h) ?_ ?_
      ·refine steps5_cons ?_ ?_
       ·intro f w1 hb hd Q hK
        clear hd
        have hK:=Lib.hid hK
        go_wp2
        exact hK.out _ _ rfl (.refl _ _) nof
       refine steps5_cons ?_ ?_
       ·intro f w1 hb hd Q hK
        have e95:f 95=.bool true:=hd.1 rfl
        clear hd
        simp only [e95] at hK
        have hK:=Lib.hid hK
        go_wp2
        exact hK.out _ _ rfl (.refl _ _) nof
       refine steps5_cons ?_ ?_
       ·intro f w1 hb hd Q hK
        have e96:f 96=.bool true:=hd.1 rfl
        clear hd
        simp only [e96] at hK
        have hK:=Lib.hid hK
        go_wp2
        exact hK.out _ _ rfl (.refl _ _) nof
       refine steps5_cons ?_ ?_
       ·intro f w1 hb hd Q hK
        have e97:f 97=.pointer (some ⟨gN,1,none⟩):=hd.1 rfl
        have e96:f 96=.bool true:=hd.2.1 rfl
        clear hd
        simp only [e97,e96] at hK
        have hK:=Lib.hid hK
        have c0:=hKc.out _ hb
        go_wp2
        exact hK.out _ _ rfl (.refl _ _) nof
       refine steps5_cons ?_ ?_
       ·intro f w1 hb hd Q hK
        have e96:f 96=.bool true:=hd.1 rfl
        clear hd
        simp only [e96] at hK
        have hK:=Lib.hid hK
        go_wp2
        exact hK.out _ _ rfl (.refl _ _) nof
       refine steps5_cons ?_ ?_
       ·intro f w1 hb hd Q hK
        have e96:f 96=.bool true:=hd.1 rfl
        clear hd
        simp only [e96] at hK
        have hK:=Lib.hid hK
        go_wp2
        exact hK.out _ _ rfl (.refl _ _) nof
       refine steps5_cons ?_ ?_
       ·intro f w1 hb hd Q hK
        have e99:f 99=.slice (some ⟨g2,o2,none⟩) n2 c2:=hd.1 rfl
        have e100:f 100=.int .i64 k:=hd.2.1 rfl
        have e96:f 96=.bool true:=hd.2.2.1 rfl
        clear hd
        simp only [e99,e100,e96] at hK
        have hK:=Lib.hid hK
        go_wp2
        exact hK.out _ _ rfl (.refl _ _) nof
       refine steps5_cons ?_ ?_
       ·intro f w1 hb hd Q hK
        have e101:f 101=.pointer (some ⟨g2,o2+k*7,none⟩):=hd.1 rfl
        have e96:f 96=.bool true:=hd.2.1 rfl
        clear hd
        simp only [e101,e96] at hK
        have hK:=Lib.hid hK
        obtain ⟨c0,c1,c2,c3,c4,c5,c6⟩:=hRC.out _ hb
        go_wp2
        exact hK.out _ _ rfl (.refl _ _) nof
       refine steps5_cons ?_ ?_
       ·intro f w1 hb hd Q hK
        have e98:f 98=.slice (some ⟨gk,ok,none⟩) 32 cA:=hd.1 rfl
        have e102:f 102=.agg #[.string x.k,.int .i64 x.cl,.int .i64 x.sq,.slice q1 x.n d1,.bool x.gone,.slice q2 x.vs.length d2,.slice q3 x.ss.length d3]:=hd.2.1 rfl
        have e96:f 96=.bool true:=hd.2.2.1 rfl
        clear hd
        simp only [e98,e102,e96] at hK
        have hK:=Lib.hid hK
        go_wp2_with fail
        refine (cK.out _ hb).mono ?_
        rintro e w2 ⟨rfl,hb2⟩
        go_wp2
        exact hK.out _ _ rfl hb2 nof
       refine steps5_cons ?_ ?_
       ·intro f w1 hb hd Q hK
        have e103:f 103=.int .i64 0:=hd.1 rfl
        have e96:f 96=.bool true:=hd.2.1 rfl
        clear hd
        simp only [e103,e96] at hK
        have hK:=Lib.hid hK
        go_wp2
        exact hK.out _ _ rfl (.refl _ _) nof
       refine steps5_cons ?_ ?_
       ·intro f w1 hb hd Q hK
        have e96:f 96=.bool true:=hd.1 rfl
        have e104:f 104=.bool true:=hd.2.1 rfl
        clear hd
        simp only [e96,e104] at hK
        have hK:=Lib.hid hK
        go_wp2
        exact hK.out _ _ rfl (.refl _ _) nof
       refine steps5_cons ?_ ?_
       ·intro f w1 hb hd Q hK
        have e105:f 105=.bool true:=hd.1 rfl
        clear hd
        simp only [e105] at hK
        have hK:=Lib.hid hK
        go_wp2
        exact hK.out _ _ rfl (.refl _ _) nof
       refine steps5_cons ?_ ?_
       ·intro f w1 hb hd Q hK
        have e106:f 106=.bool true:=hd.1 rfl
        clear hd
        simp only [e106] at hK
        have hK:=Lib.hid hK
        go_wp2
        exact hK.out _ _ rfl (.refl _ _) nof
       refine steps5_cons ?_ ?_
       ·intro f w1 hb hd Q hK
        have e106:f 106=.bool true:=hd.1 rfl
        clear hd
        simp only [e106] at hK
        have hK:=Lib.hid hK
        go_wp2
        exact hK.out _ _ rfl (.refl _ _) nof
       refine steps5_cons ?_ ?_
       ·intro f w1 hb hd Q hK
        have e106:f 106=.bool true:=hd.1 rfl
        clear hd
        simp only [e106] at hK
        have hK:=Lib.hid hK
        go_wp2
        exact hK.out _ _ rfl (.refl _ _) nof
       refine steps5_cons ?_ ?_
       ·intro f w1 hb hd Q hK
        have e108:f 108=.slice (some ⟨g2,o2,none⟩) n2 c2:=hd.1 rfl
        have e109:f 109=.int .i64 k:=hd.2.1 rfl
        have e106:f 106=.bool true:=hd.2.2.1 rfl
        clear hd
        simp only [e108,e109,e106] at hK
        have hK:=Lib.hid hK
        go_wp2
        exact hK.out _ _ rfl (.refl _ _) nof
       refine steps5_cons ?_ ?_
       ·intro f w1 hb hd Q hK
        have e110:f 110=.pointer (some ⟨g2,o2+k*7,none⟩):=hd.1 rfl
        have e106:f 106=.bool true:=hd.2.1 rfl
        clear hd
        simp only [e110,e106] at hK
        have hK:=Lib.hid hK
        obtain ⟨c0,c1,c2,c3,c4,c5,c6⟩:=hRC.out _ hb
        go_wp2
        exact hK.out _ _ rfl (.refl _ _) nof
       refine steps5_cons ?_ ?_
       ·intro f w1 hb hd Q hK
        have e107:f 107=.pointer (some ⟨gb,0,none⟩):=hd.1 rfl
        have e111:f 111=.agg #[.string x.k,.int .i64 x.cl,.int .i64 x.sq,.slice q1 x.n d1,.bool x.gone,.slice q2 x.vs.length d2,.slice q3 x.ss.length d3]:=hd.2.1 rfl
        have e106:f 106=.bool true:=hd.2.2.1 rfl
        clear hd
        simp only [e107,e111,e106] at hK
        have hK:=Lib.hid hK
        go_wp2_with fail
        refine (cH.out _ hb).mono ?_
        rintro e w2 ⟨rfl,hb2⟩
        go_wp2
        exact hK.out _ _ rfl hb2 nof
       refine steps5_cons ?_ ?_
       ·intro f w1 hb hd Q hK
        have e112:f 112=.bool true:=hd.1 rfl
        have e106:f 106=.bool true:=hd.2.1 rfl
        clear hd
        simp only [e112,e106] at hK
        have hK:=Lib.hid hK
        go_wp2
        exact hK.out _ _ rfl (.refl _ _) nof
       refine steps5_cons ?_ ?_
       ·intro f w1 hb hd Q hK
        have e106:f 106=.bool true:=hd.1 rfl
        have e113:f 113=.bool false:=hd.2.1 rfl
        clear hd
        simp only [e106,e113] at hK
        have hK:=Lib.hid hK
        go_wp2
        exact hK.out _ _ rfl (.refl _ _) nof
       trivial
      intro f w1 hb hf hne
      refine wpList_nil ?_
      have d114:f 114=.bool false:=hf 19 _ _ (by decide) rfl rfl
      simp only [d114]
      have hP:=Lib.hid (hbx10.out.trans (hb.mono hsx10.out))
      clear hf hne d114 hb
      go_wp2
      exact ⟨⟨k+1,by omega,by simp,hP.out⟩,by simp [intOf];omega⟩
     have b0:(CK==0)=false:=by simp [h0]
     clear hF h0
     refine wp_region_grow5 20 (fun k=>(Nat.ble 95 k&&Nat.ble k 114)) _ [] (fun a b=>Below a.heap.size a b) (Below.refl _ _).drew below_tr (fun j x' q=>(tfBL g2 o2 n2 c2 k gN x q1 d1 q2 d2 q3 d3 gk ok cA CK).getD j (fun _ _=>True) x' q) (fun _=>false) (fun f=>#[_,.slice (some ⟨g2,o2,none⟩) n2 c2,_,_,_,.pointer (some ⟨gb,0,none⟩),_,_,_,_,_,_,.int .i64 k,.pointer (some ⟨gN,0,none⟩),.bool true,_,_,_,_,_,_,_,_,_,_,_,_,_,_,_,_,_,_,_,_,_,_,_,_,_,_,_,_,_,_,_,_,_,_,_,_,_,_,_,_,_,_,_,_,_,_,_,_,_,_,_,_,_,_,_,_,_,_,_,_,_,_,_,_,_,_,_,_,_,_,_,_,_,_,_,_,_,_,_,_,f 95,f 96,f 97,f 98,f 99,f 100,f 101,f 102,f 103,f 104,f 105,f 106,f 107,f 108,f 109,f 110,f 111,f 112,f 113,f 114]) (fun f=>rfl) (by kernel_rfl) (by kernel_rfl) (by kernel_rfl) (by kernel_rfl) (by kernel_rfl) (tfBS _ _ _ _ _ _ _ _ _ _ _ _ _ _ _ _ _) (fun _ _ _ h=>by cases h) ?_ ?_
     ·refine steps5_cons ?_ ?_
      ·intro f w1 hb hd Q hK
       clear hd
       have hK:=Lib.hid hK
       go_wp2
       exact hK.out _ _ rfl (.refl _ _) nof
      refine steps5_cons ?_ ?_
      ·intro f w1 hb hd Q hK
       have e95:f 95=.bool true:=hd.1 rfl
       clear hd
       simp only [e95] at hK
       have hK:=Lib.hid hK
       go_wp2
       exact hK.out _ _ rfl (.refl _ _) nof
      refine steps5_cons ?_ ?_
      ·intro f w1 hb hd Q hK
       have e96:f 96=.bool true:=hd.1 rfl
       clear hd
       simp only [e96] at hK
       have hK:=Lib.hid hK
       go_wp2
       exact hK.out _ _ rfl (.refl _ _) nof
      refine steps5_cons ?_ ?_
      ·intro f w1 hb hd Q hK
       have e97:f 97=.pointer (some ⟨gN,1,none⟩):=hd.1 rfl
       have e96:f 96=.bool true:=hd.2.1 rfl
       clear hd
       simp only [e97,e96] at hK
       have hK:=Lib.hid hK
       have c0:=hKc.out _ hb
       go_wp2
       exact hK.out _ _ rfl (.refl _ _) nof
      refine steps5_cons ?_ ?_
      ·intro f w1 hb hd Q hK
       have e96:f 96=.bool true:=hd.1 rfl
       clear hd
       simp only [e96] at hK
       have hK:=Lib.hid hK
       go_wp2
       exact hK.out _ _ rfl (.refl _ _) nof
      refine steps5_cons ?_ ?_
      ·intro f w1 hb hd Q hK
       have e96:f 96=.bool true:=hd.1 rfl
       clear hd
       simp only [e96] at hK
       have hK:=Lib.hid hK
       go_wp2
       exact hK.out _ _ rfl (.refl _ _) nof
      refine steps5_cons ?_ ?_
      ·intro f w1 hb hd Q hK
       have e99:f 99=.slice (some ⟨g2,o2,none⟩) n2 c2:=hd.1 rfl
       have e100:f 100=.int .i64 k:=hd.2.1 rfl
       have e96:f 96=.bool true:=hd.2.2.1 rfl
       clear hd
       simp only [e99,e100,e96] at hK
       have hK:=Lib.hid hK
       go_wp2
       exact hK.out _ _ rfl (.refl _ _) nof
      refine steps5_cons ?_ ?_
      ·intro f w1 hb hd Q hK
       have e101:f 101=.pointer (some ⟨g2,o2+k*7,none⟩):=hd.1 rfl
       have e96:f 96=.bool true:=hd.2.1 rfl
       clear hd
       simp only [e101,e96] at hK
       have hK:=Lib.hid hK
       obtain ⟨c0,c1,c2,c3,c4,c5,c6⟩:=hRC.out _ hb
       go_wp2
       exact hK.out _ _ rfl (.refl _ _) nof
      refine steps5_cons ?_ ?_
      ·intro f w1 hb hd Q hK
       have e98:f 98=.slice (some ⟨gk,ok,none⟩) 32 cA:=hd.1 rfl
       have e102:f 102=.agg #[.string x.k,.int .i64 x.cl,.int .i64 x.sq,.slice q1 x.n d1,.bool x.gone,.slice q2 x.vs.length d2,.slice q3 x.ss.length d3]:=hd.2.1 rfl
       have e96:f 96=.bool true:=hd.2.2.1 rfl
       clear hd
       simp only [e98,e102,e96] at hK
       have hK:=Lib.hid hK
       go_wp2_with fail
       refine (cK.out _ hb).mono ?_
       rintro e w2 ⟨rfl,hb2⟩
       go_wp2
       exact hK.out _ _ rfl hb2 nof
      refine steps5_cons ?_ ?_
      ·intro f w1 hb hd Q hK
       have e103:f 103=.int .i64 CK:=hd.1 rfl
       have e96:f 96=.bool true:=hd.2.1 rfl
       clear hd
       simp only [e103,e96] at hK
       have hK:=Lib.hid hK
       go_wp2
       exact hK.out _ _ rfl (.refl _ _) nof
      refine steps5_cons ?_ ?_
      ·intro f w1 hb hd Q hK
       have e96:f 96=.bool true:=hd.1 rfl
       have e104:f 104=.bool false:=hd.2.1 rfl
       clear hd
       simp only [e96,e104] at hK
       have hK:=Lib.hid hK
       go_wp2
       exact hK.out _ _ rfl (.refl _ _) nof
      refine steps5_cons ?_ ?_
      ·intro f w1 hb hd Q hK
       have e105:f 105=.bool false:=hd.1 rfl
       clear hd
       simp only [e105] at hK
       have hK:=Lib.hid hK
       go_wp2
       exact hK.out _ _ rfl (.refl _ _) nof
      refine steps5_cons ?_ ?_
      ·intro f w1 hb hd Q hK
       have e106:f 106=.bool false:=hd.1 rfl
       clear hd
       simp only [e106] at hK
       have hK:=Lib.hid hK
       go_wp2
       exact hK.out _ _ rfl (.refl _ _) nof
      refine steps5_cons ?_ ?_
      ·intro f w1 hb hd Q hK
       have e106:f 106=.bool false:=hd.1 rfl
       clear hd
       simp only [e106] at hK
       have hK:=Lib.hid hK
       go_wp2
       exact hK.out _ _ rfl (.refl _ _) nof
      refine steps5_cons ?_ ?_
      ·intro f w1 hb hd Q hK
       have e106:f 106=.bool false:=hd.1 rfl
       clear hd
       simp only [e106] at hK
       have hK:=Lib.hid hK
       go_wp2
       exact hK.out _ _ rfl (.refl _ _) nof
      refine steps5_cons ?_ ?_
      ·intro f w1 hb hd Q hK
       have e108:f 108=undef:=hd.1 rfl
       have e109:f 109=undef:=hd.2.1 rfl
       have e106:f 106=.bool false:=hd.2.2.1 rfl
       clear hd
       simp only [e108,e109,e106] at hK
       have hK:=Lib.hid hK
       go_wp2
       exact hK.out _ _ rfl (.refl _ _) nof
      refine steps5_cons ?_ ?_
      ·intro f w1 hb hd Q hK
       have e110:f 110=undef:=hd.1 rfl
       have e106:f 106=.bool false:=hd.2.1 rfl
       clear hd
       simp only [e110,e106] at hK
       have hK:=Lib.hid hK
       go_wp2
       exact hK.out _ _ rfl (.refl _ _) nof
      refine steps5_cons ?_ ?_
      ·intro f w1 hb hd Q hK
       have e107:f 107=undef:=hd.1 rfl
       have e111:f 111=undef:=hd.2.1 rfl
       have e106:f 106=.bool false:=hd.2.2.1 rfl
       clear hd
       simp only [e107,e111,e106] at hK
       have hK:=Lib.hid hK
       go_wp2
       exact hK.out _ _ rfl (.refl _ _) nof
      refine steps5_cons ?_ ?_
      ·intro f w1 hb hd Q hK
       have e112:f 112=undef:=hd.1 rfl
       have e106:f 106=.bool false:=hd.2.1 rfl
       clear hd
       simp only [e112,e106] at hK
       have hK:=Lib.hid hK
       go_wp2
       exact hK.out _ _ rfl (.refl _ _) nof
      refine steps5_cons ?_ ?_
      ·intro f w1 hb hd Q hK
       have e106:f 106=.bool false:=hd.1 rfl
       have e113:f 113=undef:=hd.2.1 rfl
       clear hd
       simp only [e106,e113] at hK
       have hK:=Lib.hid hK
       go_wp2
       exact hK.out _ _ rfl (.refl _ _) nof
      trivial
     intro f w1 hb hf hne
     refine wpList_nil ?_
     have d114:f 114=.bool false:=hf 19 _ _ (by decide) rfl rfl
     simp only [d114]
     have hP:=Lib.hid (hbx10.out.trans (hb.mono hsx10.out))
     clear hf hne d114 hb
     go_wp2
     exact ⟨⟨k+1,by omega,by simp,hP.out⟩,by simp [intOf];omega⟩
 | some r =>
  have hfo:=Lib.hid hfi
  have ef:foR LG R=r:=by unfold foR;rw [hfi];rfl
  rw [ef] at o1 o2 o3 ⊢
  clear ef hfi
  have hrm:=Lib.hid (List.mem_of_find?_eq_some hfo.out)
  have hro:=hokR.out r hrm.out
  have hfr:fB4 LG r=true:=List.find?_some hfo.out
  unfold fB4 at hfr
  rw [Bool.and_eq_true,Bool.and_eq_true,decide_eq_true_eq,decide_eq_true_eq,Bool.not_eq_true'] at hfr
  obtain ⟨h14,hck0,hhas⟩:=hfr
  obtain ⟨hsh,h64,hvf⟩:=ck0_sh hck0
  obtain ⟨K,hK⟩:∃ K,K=fL 32 (kyB r.cl.toNat):=⟨_,rfl⟩
  rw [← hK] at hvf
  have hK32:=Lib.hid (show K.length=32 by rw [hK,fL_len])
  have hKb:=Lib.hid (show BR K by rw [hK];exact fL_br (key_byt _))
  obtain ⟨X,hX⟩:∃ X,X=frX r.cl:=⟨_,rfl⟩
  have hXp:=Lib.hid (show X.pub=K by rw [hX,hK];unfold frX;rw [if_pos h14])
  have hIt:frI r.cl=true:=decide_eq_true h14
  obtain ⟨m,hm⟩:=List.mem_iff_getElem?.1 hrm.out
  have hmn:=Lib.hid (show m<n2 by have:=(List.getElem?_eq_some_iff.1 hm).1;have:=hn2.out;omega)
  replace hm:=Lib.hid hm
  replace hvf:=Lib.hid hvf
  replace hhas:=Lib.hid hhas
  replace h64:=Lib.hid h64
  replace hro:=Lib.hid hro
  replace o1:=Lib.hid o1
  replace o2:=Lib.hid o2
  replace o3:=Lib.hid o3
  clear hsh hck0 hK h14
  have cF:=Lib.hid (fun (L:List GrV) p c w1 (h4:Gr4 L) (hG:GsAt w1 p L)=>show Calls Tryz.prog 43 #[.slice p 4 c,.int .i64 r.cl] w1 (PostFg X true w1) from by rw [hX,← hIt];exact Find4 h4 p c r.cl w1 hG)
  replace hX:=Lib.hid hX
  clear hIt
  go_upto_region 9 with fail
  refine at_world (fun W8 hW=>?_)
  have hb:Below w7.heap.size w7 W8:=by rw [hW];go_grown
  obtain ⟨gR,hgR⟩:∃ g,g=w7.heap.size:=⟨_,rfl⟩
  have kR:Blk W8 gR 45 #[.string r.k,.int .i64 r.cl,.int .i64 r.sq,.slice q1 r.n d1,.bool r.gone,.slice q2 r.vs.length d2,.slice q3 r.ss.length d3]:=by rw [hW,hgR];exact Blk.new _ _ _
  rw [← hgR]
  clear hW hgR
  have hb8:=Lib.hid (hb7.trans (hb.mono hb7.size))
  have hs8:=Lib.hid hb8.out.size
  have hG8:=Lib.hid (hG7.out.below hb)
  have hR8:=Lib.hid (hR7.out.ext (.below hb))
  have u1:=Lib.hid (below_kept o1.out hb)
  have u2:=Lib.hid (below_kept o2.out hb)
  have u3:=Lib.hid (below_kept o3.out hb)
  clear hb hb7 hG7 hR7 o1 o2 o3
  have cG:=Lib.hid (fun w1 (hb2:Below W8.heap.size W8 w1)=>grants29_c w1 (hS.out.below (hb8.out.trans (hb2.mono hs8.out)) hB.out) (hCv.out.below (hb8.out.trans (hb2.mono hs8.out)) hCv.out.lt))
  have hSS:=Lib.hid (fun w' (hb2:Below W8.heap.size W8 w')=>(⟨(blk7 (kR.below hb2)).2.1,trivial⟩:w'.cell? ⟨gR,1,none⟩=some (.int .i64 r.cl)∧True))
  have kR':=Lib.hid kR
  clear kR
  go_cut [8,9] from 37 to 43 (fun p c wx=>∃ (gN:Nat) (qA:Option Addr) (cA:Nat),p=.pointer (some ⟨gN,0,none⟩)∧c=.bool true∧W8.heap.size≤gN∧Blk wx gN 51 #[.int .i64 X.cl,.slice qA X.pub.length cA,.string X.pre]∧wx.ownsRow 0 5 1 (.slice qA X.pub.length cA) X.pub.length (bL X.pub)∧Below W8.heap.size W8 wx)
  case first =>
   refine wp_region_grow6 8 6 (fun k=>Nat.beq k 8||(Nat.ble 37 k&&Nat.ble k 43)) _ [] (fun j x' q=>(tgEL gR r X true W8.heap.size).getD j (fun _ _=>True) x' q) (fun j=>j==7) (fun f=>#[_,_,_,_,_,_,.pointer (some ⟨gR,0,none⟩),_,f 8,_,_,_,_,_,_,_,_,_,_,_,_,_,_,_,_,_,_,_,_,_,_,_,_,_,_,_,_,f 37,f 38,f 39,f 40,f 41,f 42,f 43,_,_,_,_,_,_,_,_,_,_,_,_,_,_,_,_,_,_,_,_,_,_,_,_,_,_,_,_,_,_,_,_,_,_,_,_,_,_,_,_,_,_,_,_,_,_,_,_,_,_,_,_,_,_,_,_,_,_,_,_,_,_,_,_,_,_,_,_,_,_,_]) (fun f=>rfl) (by decide) (by kernel_rfl) (by kernel_rfl) (by kernel_rfl) (by kernel_rfl) (by kernel_rfl) (tgES _ _ _ _ _) ?_ ?_ ?_
   ·refine steps2_cons ?_ ?_
    ·intro f w1 hb hd Q hK
     clear hd
     have hK:=Lib.hid hK
     go_wp2_with fail
     refine (cG.out _ hb).mono ?_
     rintro e w2 ⟨p,c,L,rfl,h4,hg,hb2⟩
     replace h4:=Lib.hid h4
     replace hg:=Lib.hid hg
     go_wp2
     exact hK.out _ _ ⟨_,_,_,rfl,h4.out,hg.out⟩ hb2 nof
    refine steps2_cons ?_ ?_
    ·intro f w1 hb hd Q hK
     clear hd
     have hK:=Lib.hid hK
     go_wp2
     exact hK.out _ _ rfl (.refl _ _) nof
    refine steps2_cons ?_ ?_
    ·intro f w1 hb hd Q hK
     have e39:f 39=.pointer (some ⟨gR,1,none⟩):=hd.1 rfl
     clear hd
     simp only [e39] at hK
     have hK:=Lib.hid hK
     have c0:=(hSS.out _ hb).1
     go_wp2
     exact hK.out _ _ rfl (.refl _ _) nof
    refine steps2_cons ?_ ?_
    ·intro f w1 hb hd Q hK
     obtain ⟨p38,c38,L38,e38,h38,q38⟩:=(hd.1 rfl:GrP (f 38) w1)
     replace h38:=Lib.hid h38
     replace q38:=Lib.hid q38
     have e40:f 40=.int .i64 r.cl:=hd.2.1 rfl
     clear hd
     simp only [e38,e40] at hK
     have hK:=Lib.hid hK
     go_wp2_with fail
     refine (cF.out L38 p38 c38 _ h38.out q38.out).mono ?_
     rintro e w2 ⟨q,c,rfl,ho,hb2⟩
     replace ho:=Lib.hid (own_mono ho (Nat.zero_le _))
     go_wp2
     exact hK.out _ _ ⟨_,_,rfl,ho.out⟩ hb2 nof
    refine steps2_cons ?_ ?_
    ·intro f w1 hb hd Q hK
     obtain ⟨q41,c41,e41,o41⟩:=(hd.1 rfl:FgP X true (f 41) w1)
     replace o41:=Lib.hid o41
     clear hd
     simp only [e41] at hK
     have hK:=Lib.hid hK
     go_wp2
     exact hK.out _ _ ⟨_,_,rfl,o41.out⟩ (.refl _ _) nof
    refine steps2_cons ?_ ?_
    ·intro f w1 hb hd Q hK
     obtain ⟨q37,c37,e37,o37⟩:=(hd.1 rfl:FgP X true (f 37) w1)
     replace o37:=Lib.hid o37
     clear hd
     simp only [e37] at hK
     have hK:=Lib.hid hK
     go_wp2
     exact hK.out _ _ ⟨_,_,rfl,o37.out⟩ (.refl _ _) nof
    refine steps2_cons ?_ ?_
    ·intro f w1 hb hd Q hK
     obtain ⟨q37,c37,e37,o37⟩:=(hd.1 rfl:FgP X true (f 37) w1)
     replace o37:=Lib.hid o37
     clear hd
     simp only [e37] at hK
     have hK:=Lib.hid hK
     go_wp2
     exact hK.out _ _ rfl (.refl _ _) nof
    refine steps2_cons ?_ ?_
    ·intro f w1 hb hd Q hK
     clear hd
     have hK:=Lib.hid hK
     have hsz:=hb.size
     go_wp2
     exact hK.out _ _ ⟨_,rfl,hsz,Blk.new _ _ _⟩ ((Below.refl _ _).alloc (Nat.le_refl _) _) (fun _=>⟨_,rfl,Nat.le_refl _⟩)
    trivial
   ·intro f w1 hb hf
    obtain ⟨qA,cA,eA,oA⟩:AgP X (f 42) w1:=hf 5 _ _ (by decide) rfl rfl
    have eI:f 43=.bool true:=hf 6 _ _ (by decide) rfl rfl
    obtain ⟨gN,dN,loN,bkN⟩:NewB W8.heap.size 51 #[.int .i64 0,.slice none 0 0,.string ⟨#[]⟩] (f 8) w1:=hf 7 _ _ (by decide) rfl rfl
    simp only [eA,eI,dN]
    clear hf
    replace oA:=Lib.hid oA
    replace hb:=Lib.hid hb
    have kN:=Lib.hid bkN
    refine stGr rfl rfl rfl rfl bkN rfl (by kernel_rfl) ?_
    intro w5 hnew hgr hsz
    have hbS:=Lib.hid (hb.out.grown hgr hb.out.size (fun kk hk=>by have:gN=kk:=Option.some.inj hk;omega))
    have oS:=Lib.hid (own_other oA.out kN.out (by decide) hgr)
    clear hgr kN bkN oA hb
    go_wp2
    go_meet
    case rel=>exact ⟨gN,qA,cA,rfl,rfl,loN,hnew,oS.out,hbS.out⟩
   intro f w1 hb hf on oe hon hoe
   cases hon
   cases hoe
   obtain ⟨qA,cA,eA,oA⟩:AgP X (f 42) w1:=hf 5 _ _ (by decide) (by decide) rfl rfl
   obtain ⟨qT,cT,eI,oT⟩:FgP X true (f 37) w1:=hf 4 _ _ (by decide) (by decide) rfl rfl
   obtain ⟨gN,dN,loN,bkN⟩:NewB W8.heap.size 51 #[.int .i64 0,.slice none 0 0,.string ⟨#[]⟩] (f 8) w1:=hf 7 _ _ (by decide) (by decide) rfl rfl
   simp only [eA,eI,dN]
   clear hf
   replace oA:=Lib.hid oA
   replace hb:=Lib.hid hb
   have kN:=Lib.hid bkN
   refine stGr rfl rfl rfl rfl bkN rfl (by kernel_rfl) ?_
   intro w5 hnew hgr hsz
   have hbS:=Lib.hid (hb.out.grown hgr hb.out.size (fun kk hk=>by have:gN=kk:=Option.some.inj hk;omega))
   have oS:=Lib.hid (own_other oA.out kN.out (by decide) hgr)
   clear hgr kN bkN oA hb
   go_wp2
   go_meet
   case rel=>exact ⟨gN,qA,cA,rfl,rfl,loN,hnew,oS.out,hbS.out⟩
  case rest =>
   obtain ⟨gN,qA,cA,hp8,hc9,loN,kF,oF,hb2⟩:=hcut
   subst hp8 hc9
   clear cG cF hSS
   go_wp2_with fail
   refine at_world (fun W9 hW=>?_)
   rw [← hW] at kF oF hb2
   have hs9:=Lib.hid hb2.size
   have hb9:=Lib.hid (hb8.out.trans (hb2.mono hs8.out))
   have hG9:=Lib.hid (hG8.out.below hb2)
   have hR9:=Lib.hid (hR8.out.ext (.below hb2))
   have t1:=Lib.hid (below_kept u1.out hb2)
   have t2:=Lib.hid (below_kept u2.out hb2)
   have t3:=Lib.hid (below_kept u3.out hb2)
   have kR9:=Lib.hid (kR'.out.below hb2)
   clear hW hb2 hG8 hR8 u1 u2 u3 kR' hb8 hs8
   rw [hXp.out] at kF oF
   obtain ⟨q2',c2',e2,hc2,hbx⟩:=own_pv oF
   obtain ⟨rfl,e3,rfl⟩:qA=q2'∧K.length=K.length∧cA=c2':=by injection e2 with a1 a2 a3;exact ⟨a1,a2,a3⟩
   rw [hK32.out] at hc2 hbx kF
   obtain ⟨gk,ok,rfl,lk,-,hk⟩:=hbx (by decide)
   have hkK:=Lib.hid hk
   have hlk:=Lib.hid lk
   have hck:=Lib.hid hc2
   replace kF:=Lib.hid kF
   clear oF e2 hbx hk lk hc2 hXp hX
   go_loopw [10,11] (fun a i wr=>∃ (k:Nat) (b:Bool),k≤n2∧i=.int .i64 k∧a=.bool b∧(m<k→b=true)∧Below W9.heap.size W9 wr) (fun _ i _=>(n2-intOf i).toNat)
   case atStart=>exact ⟨0,false,by omega,rfl,rfl,fun h=>absurd h (by omega),Below.refl _ _⟩
   case round =>
    obtain ⟨k,b,hkn,rfl,rfl,hmb,hbk⟩:=hrel
    by_cases he:k=n2
    ·obtain rfl:b=true:=hmb (by rw [he];exact hmn.out)
     have hnl:¬ (k:Int)<(n2:Int):=by omega
     have hb10:=Lib.hid (hb9.out.trans (hbk.mono hb9.out.size))
     have hs10:=Lib.hid hb10.out.size
     have kR:=kR9.out.below hbk
     have kX:=kF.out.below hbk
     have hGk:=hG9.out.below hbk
     have v1:=own_dots (below_kept t1.out hbk)
     have v2:=own_l (below_kept t2.out hbk)
     have v3:=own_l (below_kept t3.out hbk)
     obtain ⟨q3',c3',e3,hc3,hbx3⟩:=own_pv (below_kept t3.out hbk)
     have hck3:64≤d3:=by injection e3 with a1 a2 a3;have:=h64.out;omega
     have hSB:∃ gs os,q3=some ⟨gs,os,none⟩∧gs<wr.heap.size∧∀ j,j<64→wr.cell? ⟨gs,os+j,none⟩=some (.int .u8 (gB r.ss j)):=by
      obtain ⟨gs,os,e,hl,hc⟩:=v3 (by have:=h64.out;omega)
      exact ⟨gs,os,e,hl,fun j hj=>hc j (by have:=h64.out;omega)⟩
     have hh:=hhas.out
     have hvv:=hvf.out
     have htx:=Lib.hid (fun w1 (hb:Below wr.heap.size wr w1)=>show Calls Tryz.prog 64 #[.agg #[.string r.k,.int .i64 r.cl,.int .i64 r.sq,.slice q1 r.n d1,.bool r.gone,.slice q2 r.vs.length d2,.slice q3 r.ss.length d3]] w1 (PostO (recT r) w1) from recText_o r.k r.cl r.sq q1 r.n d1 r.gone q2 r.vs.length d2 q3 r.ss.length d3 r.ds r.vs (by have:=hro.out.1;omega) rfl w1 (v1.below hb) (v2.below hb))
     have cH:=Lib.hid (fun w1 (hb:Below wr.heap.size wr w1)=>show Calls Tryz.prog 83 #[.pointer (some ⟨gb,0,none⟩),.agg #[.string r.k,.int .i64 r.cl,.int .i64 r.sq,.slice q1 r.n d1,.bool r.gone,.slice q2 r.vs.length d2,.slice q3 r.ss.length d3]] w1 (PostV (.bool false) w1) from by
      rw [← hh]
      exact gHas_c w3.heap.size gb S5 LG [] r (recV r q1 d1 q2 d2 q3 d3) hro.out w1 (hGk.below hb) ⟨q1,d1,q2,d2,q3,d3,rfl,⟨v1.1,RowF.of_row (v1.below hb).2⟩,RowF.of_row (v2.below hb),RowF.of_row (v3.below hb)⟩)
     have htl:=txt_le (r:=r)
     have htr:=txt_br (k:=r.k) (cl:=r.cl) (sq:=r.sq) (n:=r.n) (ds:=r.ds) (gone:=r.gone) hro.out.2.2.2.1
     obtain ⟨T,hT⟩:∃ T,T=recT r:=⟨_,rfl⟩
     change (recT r).length≤50000 at htl
     change BR (recT r) at htr
     change Sh.verI (gB K) (gB r.ss) [((recT r).length,gB (recT r))]=true at hvv
     rw [← hT] at htl htr htx hvv
     obtain ⟨gs,os,rfl,lgs,hgs⟩:=hSB
     have hlk2:=hlk.out
     rw [h64.out] at kR htx cH
     have hvf2:=Lib.hid (fun v w1 (hb:Below wr.heap.size wr w1) (hv:PV w1 v T.length (gB T))=>show Calls Tryz.prog 82 #[.slice (some ⟨gk,ok,none⟩) 32 cA,.slice (some ⟨gs,os,none⟩) 64 d3,.slice (some ⟨w1.heap.size,0,none⟩) 1 1] (w1.alloc (.cells #[v] 22)) (PostV (.bool true) w1) from by
      have ha:Below w1.heap.size w1 (w1.alloc (.cells #[v] 22)):=(Below.refl _ _).alloc (Nat.le_refl _) _
      have hb2:=hb.trans (ha.mono hb.size)
      have hb3:=hb10.out.trans (hb2.mono hs10.out)
      have hb4:=hbk.trans (hb2.mono hbk.size)
      rw [← hvv]
      exact (Verify_c gk ok cA gs os d3 (gB K) (gB r.ss) (.slice (some ⟨w1.heap.size,0,none⟩) 1 1) [v] [(T.length,gB T)] (w1.alloc (.cells #[v] 22)) hck.out hck3 (gB_byt hKb.out) (gB_byt hro.out.2.2.2.2) (Nat.lt_of_lt_of_le hlk2 hb4.size) (fun j hj=>(hb4.cell (p:=⟨gk,ok+j,none⟩) hlk2).trans (hkK.out j hj)) (Nat.lt_of_lt_of_le lgs hb2.size) (fun j hj=>(hb2.cell (p:=⟨gs,os+j,none⟩) lgs).trans (hgs j hj)) (hCv.out.below hb3 hCv.out.lt) (parts_new w1 [v] (by show 0<1;decide) _) ⟨hv.below ha,trivial⟩ ⟨fun j _=>gB_byt htr j,trivial⟩ (by show T.length+0≤1000000;omega) (by show 1≤10000;decide) (hS.out.below hb3 hB.out) (by have:=hb3.size;have:=hB.out;omega)).mono (fun e w' ⟨he,hbb⟩=>⟨he,ha.trans (hbb.mono ha.size)⟩))
     have hSS:=Lib.hid (fun w' (hb:Below wr.heap.size wr w')=>(⟨((kX.below hb).cell 1),blk7 (kR.below hb)⟩:w'.cell? ⟨gN,1,none⟩=some (.slice (some ⟨gk,ok,none⟩) 32 cA)∧w'.cell? ⟨gR,0,none⟩=some (.string r.k)∧w'.cell? ⟨gR,1,none⟩=some (.int .i64 r.cl)∧w'.cell? ⟨gR,2,none⟩=some (.int .i64 r.sq)∧w'.cell? ⟨gR,3,none⟩=some (.slice q1 r.n d1)∧w'.cell? ⟨gR,4,none⟩=some (.bool r.gone)∧w'.cell? ⟨gR,5,none⟩=some (.slice q2 r.vs.length d2)∧w'.cell? ⟨gR,6,none⟩=some (.slice (some ⟨gs,os,none⟩) 64 d3)))
     have z0:=Below.refl wr.heap.size wr
     have hP9:=Lib.hid hbk
     clear hbk hlk2 hvv hh hGk v1 v2 v3 hbx3 hc3 e3 kX kR htl htr hT lgs hgs hmb hkn he hck3
     clear hG9 hR9 t1 t2 t3 kR9 kF
     go_upto_region 15 with fail
     go_region_held3 (fun w'=>w'.cell? ⟨gN,1,none⟩=some (.slice (some ⟨gk,ok,none⟩) 32 cA)∧w'.cell? ⟨gR,0,none⟩=some (.string r.k)∧w'.cell? ⟨gR,1,none⟩=some (.int .i64 r.cl)∧w'.cell? ⟨gR,2,none⟩=some (.int .i64 r.sq)∧w'.cell? ⟨gR,3,none⟩=some (.slice q1 r.n d1)∧w'.cell? ⟨gR,4,none⟩=some (.bool r.gone)∧w'.cell? ⟨gR,5,none⟩=some (.slice q2 r.vs.length d2)∧w'.cell? ⟨gR,6,none⟩=some (.slice (some ⟨gs,os,none⟩) 64 d3)) (first | exact hSS.out _ n3 | exact hSS.out _ n2' | exact hSS.out _ n1' | exact hSS.out _ z0 | exact hSS.out _ z0.drew | exact hSS.out _ (n1'.alloc n1'.size _)) (first | (go_at_call 64;refine calls_at (fun V1 h1=>?_);have m1:Below wr.heap.size wr V1:=(by rw [h1];go_grown);clear h1;(with_reducible refine (htx.out V1 m1).mono ?_);rintro e w8 ⟨v,n6,rfl,ho,hbb⟩;obtain ⟨pt,ct,rfl,hct,hbx⟩:=own_pv ho;have n1':=m1.trans (hbb.mono m1.size);clear hbb m1 htx ho) | (go_at_call 82;refine (hvf2.out (.slice pt T.length ct) w8 n1' ⟨pt,ct,rfl,hct,hbx⟩).mono ?_;rintro e w10 ⟨rfl,hbb⟩;have n2':=n1'.trans (hbb.mono n1'.size);clear hbb hvf2) | (go_at_call 83;refine (cH.out w10 n2').mono ?_;rintro e w11 ⟨rfl,hbb⟩;have n3:=n2'.trans (hbb.mono n2'.size);clear hbb cH))
     all_goals
      have hP:=Lib.hid (hb10.out.trans (n3.mono hs10.out))
      clear hSS n3 n2' n1' z0 hbx hct
      go_wp2_with fail
      go_returns
      exact ⟨rfl,hP.out⟩
    have hkl:k<R.length:=by have:=hn2.out;omega
    have hxk:=List.getElem?_eq_getElem hkl
    have hk10:(k:Int)<10:=by have:=hR10.out;omega
    have j2:k<n2:=by omega
    have j0:(0:Int)≤(k:Int):=by omega
    have j1:(k:Int)<(n2:Int):=by omega
    have hsk:=Lib.hid hbk.size
    cases b with
    | true =>
     replace hbk:=Lib.hid hbk
     have hmem:=Lib.hid (show m<k+1→true=true from fun _=>rfl)
     obtain ⟨g2,o2,hpe,-⟩:=hR9.out (by omega)
     subst hpe
     clear hmb he hkn hkl hxk
     go_upto_region 14 with fail
     refine wp_region_grow5 9 (fun k=>(Nat.ble 50 k&&Nat.ble k 58)) _ [] (fun a b=>Below a.heap.size a b) (Below.refl _ _).drew below_tr (fun j x' q=>(thAL ).getD j (fun _ _=>True) x' q) (fun _=>false) (fun f=>#[_,.slice (some ⟨g2,o2,none⟩) n2 c2,_,_,_,_,.pointer (some ⟨gR,0,none⟩),_,_,_,.bool true,.int .i64 k,_,_,_,_,_,_,_,_,_,_,_,_,_,_,_,_,_,_,_,_,_,_,_,_,_,_,_,_,_,_,_,_,_,_,_,_,_,_,f 50,f 51,f 52,f 53,f 54,f 55,f 56,f 57,f 58,_,_,_,_,_,_,_,_,_,_,_,_,_,_,_,_,_,_,_,_,_,_,_,_,_,_,_,_,_,_,_,_,_,_,_,_,_,_,_,_,_,_,_,_,_,_,_,_,_,_,_,_,_,_,_,_]) (fun f=>rfl) (by kernel_rfl) (by kernel_rfl) (by kernel_rfl) (by kernel_rfl) (by kernel_rfl) (thAS ) (fun _ _ _ h=>by cases h) ?_ ?_
     ·refine steps5_cons ?_ ?_
      ·intro f w1 hb hd Q hK
       clear hd
       have hK:=Lib.hid hK
       go_wp2
       exact hK.out _ _ rfl (.refl _ _) nof
      refine steps5_cons ?_ ?_
      ·intro f w1 hb hd Q hK
       have e50:f 50=.bool true:=hd.1 rfl
       clear hd
       simp only [e50] at hK
       have hK:=Lib.hid hK
       go_wp2
       exact hK.out _ _ rfl (.refl _ _) nof
      refine steps5_cons ?_ ?_
      ·intro f w1 hb hd Q hK
       have e51:f 51=.bool true:=hd.1 rfl
       clear hd
       simp only [e51] at hK
       have hK:=Lib.hid hK
       go_wp2
       exact hK.out _ _ rfl (.refl _ _) nof
      refine steps5_cons ?_ ?_
      ·intro f w1 hb hd Q hK
       have e51:f 51=.bool true:=hd.1 rfl
       clear hd
       simp only [e51] at hK
       have hK:=Lib.hid hK
       go_wp2
       exact hK.out _ _ rfl (.refl _ _) nof
      refine steps5_cons ?_ ?_
      ·intro f w1 hb hd Q hK
       have e52:f 52=undef:=hd.1 rfl
       have e53:f 53=undef:=hd.2.1 rfl
       have e51:f 51=.bool true:=hd.2.2.1 rfl
       clear hd
       simp only [e52,e53,e51] at hK
       have hK:=Lib.hid hK
       go_wp2
       exact hK.out _ _ rfl (.refl _ _) nof
      refine steps5_cons ?_ ?_
      ·intro f w1 hb hd Q hK
       have e54:f 54=undef:=hd.1 rfl
       have e51:f 51=.bool true:=hd.2.1 rfl
       clear hd
       simp only [e54,e51] at hK
       have hK:=Lib.hid hK
       go_wp2
       exact hK.out _ _ rfl (.refl _ _) nof
      refine steps5_cons ?_ ?_
      ·intro f w1 hb hd Q hK
       have e51:f 51=.bool true:=hd.1 rfl
       clear hd
       simp only [e51] at hK
       have hK:=Lib.hid hK
       go_wp2
       exact hK.out _ _ rfl (.refl _ _) nof
      refine steps5_cons ?_ ?_
      ·intro f w1 hb hd Q hK
       have e55:f 55=undef:=hd.1 rfl
       have e56:f 56=undef:=hd.2.1 rfl
       have e51:f 51=.bool true:=hd.2.2.1 rfl
       clear hd
       simp only [e55,e56,e51] at hK
       have hK:=Lib.hid hK
       go_wp2
       exact hK.out _ _ rfl (.refl _ _) nof
      refine steps5_cons ?_ ?_
      ·intro f w1 hb hd Q hK
       have e51:f 51=.bool true:=hd.1 rfl
       have e57:f 57=undef:=hd.2.1 rfl
       clear hd
       simp only [e51,e57] at hK
       have hK:=Lib.hid hK
       go_wp2
       exact hK.out _ _ rfl (.refl _ _) nof
      trivial
     intro f w1 hb hf hne
     have d58:f 58=.bool true:=hf 8 _ _ (by decide) rfl rfl
     simp only [d58]
     have hP:=Lib.hid (hbk.out.trans (hb.mono hsk.out))
     clear hf hne d58 hb
     go_wp2
     exact ⟨⟨k+1,true,by omega,by simp,rfl,hmem.out,hP.out⟩,by simp [intOf];omega⟩
    | false =>
     obtain ⟨x,hx⟩:∃ x,R[k]?=some x:=⟨_,hxk⟩
     have hxo:=hokR.out x (List.mem_of_getElem? hx)
     obtain ⟨SB,hSB⟩:∃ SB,SB=sameR x.k x.cl x.sq x.ds x.gone x.vs x.ss r.k r.cl r.sq r.ds r.gone r.vs r.ss:=⟨_,rfl⟩
     have hmem:=Lib.hid (show m<k+1→SB=true from fun h=>by
      by_cases e:m=k
      ·subst e
       rw [hm.out] at hx
       obtain rfl:r=x:=by injection hx
       rw [hSB]
       simp [sameR,eqL]
      have:=hmb (by omega)
      cases this)
     obtain ⟨g2,o2,rfl,hg2,s1,e1,s2,e2,s3,e3,hrec,y0,y1,y2,y3,y4,y5,y6⟩:=(hR9.out.ext (.below hbk)).get hx
     have hRC:=Lib.hid (fun w' (hb':Below wr.heap.size wr w')=>(⟨(hb'.cell (p:=⟨g2,_,none⟩) hg2).trans y0,(hb'.cell (p:=⟨g2,_,none⟩) hg2).trans y1,(hb'.cell (p:=⟨g2,_,none⟩) hg2).trans y2,(hb'.cell (p:=⟨g2,_,none⟩) hg2).trans y3,(hb'.cell (p:=⟨g2,_,none⟩) hg2).trans y4,(hb'.cell (p:=⟨g2,_,none⟩) hg2).trans y5,(hb'.cell (p:=⟨g2,_,none⟩) hg2).trans y6⟩:w'.cell? ⟨g2,o2+k*7,none⟩=some (.string x.k)∧w'.cell? ⟨g2,o2+k*7+1,none⟩=some (.int .i64 x.cl)∧w'.cell? ⟨g2,o2+k*7+2,none⟩=some (.int .i64 x.sq)∧w'.cell? ⟨g2,o2+k*7+3,none⟩=some (.slice s1 x.n e1)∧w'.cell? ⟨g2,o2+k*7+4,none⟩=some (.bool x.gone)∧w'.cell? ⟨g2,o2+k*7+5,none⟩=some (.slice s2 x.vs.length e2)∧w'.cell? ⟨g2,o2+k*7+6,none⟩=some (.slice s3 x.ss.length e3)))
     have kR:=kR9.out.below hbk
     have hRR:=Lib.hid (fun w' (hb':Below wr.heap.size wr w')=>blk7 (kR.below hb'))
     have v1:=own_dots (below_kept t1.out hbk)
     have v2:=own_l (below_kept t2.out hbk)
     have v3:=own_l (below_kept t3.out hbk)
     have cSm:=Lib.hid (fun w1 (hb:Below wr.heap.size wr w1)=>show Calls Tryz.prog 36 #[.agg #[.string x.k,.int .i64 x.cl,.int .i64 x.sq,.slice s1 x.n e1,.bool x.gone,.slice s2 x.vs.length e2,.slice s3 x.ss.length e3],.agg #[.string r.k,.int .i64 r.cl,.int .i64 r.sq,.slice q1 r.n d1,.bool r.gone,.slice q2 r.vs.length d2,.slice q3 r.ss.length d3]] w1 (PostV (.bool SB) w1) from by
      rw [hSB]
      exact sameRec_c x.k x.cl x.sq s1 x.n e1 x.gone s2 x.vs.length e2 s3 x.ss.length e3 r.k r.cl r.sq q1 r.n d1 r.gone q2 r.vs.length d2 q3 r.ss.length d3 x.ds x.vs x.ss r.ds r.vs r.ss (by have:=hxo.1;omega) (by have:=hro.out.1;omega) rfl (by have:=hxo.2.1;omega) rfl (by have:=hxo.2.2.1;omega) rfl (by have:=hro.out.2.1;omega) rfl (by have:=hro.out.2.2.1;omega) w1 (hrec.1.d.below hb) (hrec.2.1.b.below hb) (hrec.2.2.1.b.below hb) (v1.below hb) (v2.below hb) (v3.below hb))
     replace hbk:=Lib.hid hbk
     replace hx:=Lib.hid hx
     clear hmb he hkn hkl hxk hxo hSB hrec y0 y1 y2 y3 y4 y5 y6 hg2 v1 v2 v3 kR
     go_upto_region 14 with fail
     refine wp_region_grow5 9 (fun k=>(Nat.ble 50 k&&Nat.ble k 58)) _ [] (fun a b=>Below a.heap.size a b) (Below.refl _ _).drew below_tr (fun j x' q=>(thBL g2 o2 n2 c2 k x r q1 d1 q2 d2 q3 d3 s1 e1 s2 e2 s3 e3 SB).getD j (fun _ _=>True) x' q) (fun _=>false) (fun f=>#[_,.slice (some ⟨g2,o2,none⟩) n2 c2,_,_,_,_,.pointer (some ⟨gR,0,none⟩),_,_,_,.bool false,.int .i64 k,_,_,_,_,_,_,_,_,_,_,_,_,_,_,_,_,_,_,_,_,_,_,_,_,_,_,_,_,_,_,_,_,_,_,_,_,_,_,f 50,f 51,f 52,f 53,f 54,f 55,f 56,f 57,f 58,_,_,_,_,_,_,_,_,_,_,_,_,_,_,_,_,_,_,_,_,_,_,_,_,_,_,_,_,_,_,_,_,_,_,_,_,_,_,_,_,_,_,_,_,_,_,_,_,_,_,_,_,_,_,_,_]) (fun f=>rfl) (by kernel_rfl) (by kernel_rfl) (by kernel_rfl) (by kernel_rfl) (by kernel_rfl) (thBS _ _ _ _ _ _ _ _ _ _ _ _ _ _ _ _ _ _ _ _) (fun _ _ _ h=>by cases h) ?_ ?_
     ·refine steps5_cons ?_ ?_
      ·intro f w1 hb hd Q hK
       clear hd
       have hK:=Lib.hid hK
       go_wp2
       exact hK.out _ _ rfl (.refl _ _) nof
      refine steps5_cons ?_ ?_
      ·intro f w1 hb hd Q hK
       have e50:f 50=.bool false:=hd.1 rfl
       clear hd
       simp only [e50] at hK
       have hK:=Lib.hid hK
       go_wp2
       exact hK.out _ _ rfl (.refl _ _) nof
      refine steps5_cons ?_ ?_
      ·intro f w1 hb hd Q hK
       have e51:f 51=.bool false:=hd.1 rfl
       clear hd
       simp only [e51] at hK
       have hK:=Lib.hid hK
       go_wp2
       exact hK.out _ _ rfl (.refl _ _) nof
      refine steps5_cons ?_ ?_
      ·intro f w1 hb hd Q hK
       have e51:f 51=.bool false:=hd.1 rfl
       clear hd
       simp only [e51] at hK
       have hK:=Lib.hid hK
       go_wp2
       exact hK.out _ _ rfl (.refl _ _) nof
      refine steps5_cons ?_ ?_
      ·intro f w1 hb hd Q hK
       have e52:f 52=.slice (some ⟨g2,o2,none⟩) n2 c2:=hd.1 rfl
       have e53:f 53=.int .i64 k:=hd.2.1 rfl
       have e51:f 51=.bool false:=hd.2.2.1 rfl
       clear hd
       simp only [e52,e53,e51] at hK
       have hK:=Lib.hid hK
       go_wp2
       exact hK.out _ _ rfl (.refl _ _) nof
      refine steps5_cons ?_ ?_
      ·intro f w1 hb hd Q hK
       have e54:f 54=.pointer (some ⟨g2,o2+k*7,none⟩):=hd.1 rfl
       have e51:f 51=.bool false:=hd.2.1 rfl
       clear hd
       simp only [e54,e51] at hK
       have hK:=Lib.hid hK
       obtain ⟨c0,c1,c2,c3,c4,c5,c6⟩:=hRC.out _ hb
       go_wp2
       exact hK.out _ _ rfl (.refl _ _) nof
      refine steps5_cons ?_ ?_
      ·intro f w1 hb hd Q hK
       have e51:f 51=.bool false:=hd.1 rfl
       clear hd
       simp only [e51] at hK
       have hK:=Lib.hid hK
       obtain ⟨c0,c1,c2,c3,c4,c5,c6⟩:=hRR.out _ hb
       go_wp2
       exact hK.out _ _ rfl (.refl _ _) nof
      refine steps5_cons ?_ ?_
      ·intro f w1 hb hd Q hK
       have e55:f 55=.agg #[.string x.k,.int .i64 x.cl,.int .i64 x.sq,.slice s1 x.n e1,.bool x.gone,.slice s2 x.vs.length e2,.slice s3 x.ss.length e3]:=hd.1 rfl
       have e56:f 56=.agg #[.string r.k,.int .i64 r.cl,.int .i64 r.sq,.slice q1 r.n d1,.bool r.gone,.slice q2 r.vs.length d2,.slice q3 r.ss.length d3]:=hd.2.1 rfl
       have e51:f 51=.bool false:=hd.2.2.1 rfl
       clear hd
       simp only [e55,e56,e51] at hK
       have hK:=Lib.hid hK
       go_wp2_with fail
       refine (cSm.out _ hb).mono ?_
       rintro e w2 ⟨rfl,hb2⟩
       go_wp2
       exact hK.out _ _ rfl hb2 nof
      refine steps5_cons ?_ ?_
      ·intro f w1 hb hd Q hK
       have e51:f 51=.bool false:=hd.1 rfl
       have e57:f 57=.bool SB:=hd.2.1 rfl
       clear hd
       simp only [e51,e57] at hK
       have hK:=Lib.hid hK
       go_wp2
       exact hK.out _ _ rfl (.refl _ _) nof
      trivial
     intro f w1 hb hf hne
     have d58:f 58=.bool SB:=hf 8 _ _ (by decide) rfl rfl
     simp only [d58]
     have hP:=Lib.hid (hbk.out.trans (hb.mono hsk.out))
     clear hf hne d58 hb
     go_wp2
     exact ⟨⟨k+1,SB,by omega,by simp,rfl,hmem.out,hP.out⟩,by simp [intOf];omega⟩
end Go.Proofs.YtnopjabcdloepaaGreatDoor.Rc
