import Derived.Test.YtnopjabcdloepaaGreatDoorZd
import Derived.Test.YtnopjabcdloepaaGreatDoorZb
import Derived.Lib.AppendZeros
namespace Fe
open Go.Proofs.YtnopjabcdloepaaGreatDoor
def bothS (x y xb yb:Fin P) (A B:Nat→Bool) (m:Nat):Nat→Fin P × Fin P
 | 0=>(0,1)
 | k+1=>if B (m-1-k) then (ax (stepF x y (bothS x y xb yb A B m k) (A (m-1-k))).1 (stepF x y (bothS x y xb yb A B m k) (A (m-1-k))).2 xb yb,ay (stepF x y (bothS x y xb yb A B m k) (A (m-1-k))).1 (stepF x y (bothS x y xb yb A B m k) (A (m-1-k))).2 xb yb) else stepF x y (bothS x y xb yb A B m k) (A (m-1-k))
def oneS (x y:Fin P) (A:Nat→Bool) (m:Nat):Nat→Fin P × Fin P
 | 0=>(0,1)
 | k+1=>stepF x y (oneS x y A m k) (A (m-1-k))
theorem cv_step {x y:Fin P} {s:Fin P × Fin P} (h:Cv x y) (hs:Cv s.1 s.2) (b:Bool):Cv (stepF x y s b).1 (stepF x y s b).2:=by
 unfold stepF
 cases b
 ·exact cv_add hs hs
 exact cv_add (cv_add hs hs) h
theorem cv_one {x y:Fin P} (h:Cv x y) (A:Nat→Bool) (m:Nat):∀ k,Cv (oneS x y A m k).1 (oneS x y A m k).2
 | 0=>cv_zero
 | k+1=>cv_step h (cv_one h A m k) _
def gad (p q:Fin P × Fin P):Fin P × Fin P:=(ax p.1 p.2 q.1 q.2,ay p.1 p.2 q.1 q.2)
def On2 (p:Fin P × Fin P):Prop:=Cv p.1 p.2
theorem gad_on {p q:Fin P × Fin P} (h:On2 p) (k:On2 q):On2 (gad p q):=cv_add h k
theorem gad_comm (p q:Fin P × Fin P):gad p q=gad q p:=Prod.ext (ax_comm _ _ _ _) (ay_comm _ _ _ _)
theorem gad_assoc {p q r:Fin P × Fin P} (h:On2 p) (k:On2 q) (l:On2 r):gad (gad p q) r=gad p (gad q r):=Prod.ext (ax_assoc h k l) (ay_assoc h k l)
theorem gad_swap {p q r s:Fin P × Fin P} (hp:On2 p) (hq:On2 q) (hr:On2 r) (hs:On2 s):gad (gad p q) (gad r s)=gad (gad p r) (gad q s):=by
 rw [gad_assoc hp hq (gad_on hr hs),← gad_assoc hq hr hs,gad_comm q r,gad_assoc hr hq hs,← gad_assoc hp hr (gad_on hq hs)]
theorem step_gad (x y:Fin P) (s:Fin P × Fin P) (b:Bool):stepF x y s b=if b then gad (gad s s) (x,y) else gad s s:=rfl
theorem both_sum {x y xb yb:Fin P} (h:Cv x y) (hb:Cv xb yb) (A B:Nat→Bool) (m:Nat):∀ k,bothS x y xb yb A B m k=gad (oneS x y A m k) (oneS xb yb B m k)
 | 0=>(Prod.ext (ax_zero _ _) (ay_zero _ _)).symm
 | k+1=>by
  have ih:=both_sum h hb A B m k
  have hu:On2 (oneS x y A m k):=cv_one h A m k
  have hv:On2 (oneS xb yb B m k):=cv_one hb B m k
  show (if B (m-1-k) then gad (stepF x y (bothS x y xb yb A B m k) (A (m-1-k))) (xb,yb) else stepF x y (bothS x y xb yb A B m k) (A (m-1-k)))=gad (stepF x y (oneS x y A m k) (A (m-1-k))) (stepF xb yb (oneS xb yb B m k) (B (m-1-k)))
  rw [ih,step_gad,step_gad,step_gad]
  generalize oneS x y A m k=u at *
  generalize oneS xb yb B m k=v at *
  have hx:On2 (x,y):=h
  have hxb:On2 (xb,yb):=hb
  generalize (x,y)=p at *
  generalize (xb,yb)=q at *
  rw [gad_swap hu hv hu hv]
  have huu:=gad_on hu hu
  have hvv:=gad_on hv hv
  have e1:gad (gad (gad u u) (gad v v)) p=gad (gad (gad u u) p) (gad v v):=by rw [gad_assoc huu hvv hx,gad_comm (gad v v) p,← gad_assoc huu hx hvv]
  cases A (m-1-k) <;> cases B (m-1-k) <;> simp only [if_true,if_false,Bool.false_eq_true]
  ·rw [gad_assoc huu hvv hxb]
  ·rw [e1]
  rw [e1,gad_assoc (gad_on huu hx) hvv hxb]
end Fe
namespace Go.Proofs.YtnopjabcdloepaaGreatDoor
open Go.RowKit
theorem int_under':Tryz.prog.underlying 3=some (.int .i64):=by kernel_rfl
theorem run_app0b (w:World) (ty:TypeId) (p:Option Addr) (n c:Nat) (hnc:n≤c):(Builtin.append_ #[285,3] ty #[.slice p n c,.int .i64 0]).run Tryz.prog w=.ok (.slice p n c) w:=by
 obtain ⟨i,hi,hz,hsz,hby⟩:=info_parts bool_info
 have hw:IntKind.i64.wrap (0:Int)=0:=by decide
 simp [Builtin.append_,run_underlying bools_under,run_underlying int_under',sizeOf,typeInfo,zeroValue,hi,hz,hsz,asInt,asIntOf,hw,hnc]
 cases p <;> simp [storeCells]
set_option maxRecDepth 20000 in
set_option maxHeartbeats 8000000 in
theorem both_ss (g1 o1 c1:Nat) (b1:Nat→Int) (hr1:∀ j,0≤b1 j∧b1 j<256) (g2 o2 c2:Nat) (b2:Nat→Int) (hr2:∀ j,0≤b2 j∧b2 j<256) {X Y Z T:Fe.E} {x y:Fin Fe.P} (w:World) (hg1:g1<w.heap.size) (hc1:∀ j,j<32→w.cell? ⟨g1,o1+j,none⟩=some (.int .u8 (b1 j))) (hg2:g2<w.heap.size) (hc2:∀ j,j<32→w.cell? ⟨g2,o2+j,none⟩=some (.int .u8 (b2 j))) (hp:PtE X Y Z T x y) (hCv:CvP w) :
  Calls Tryz.prog 165 #[.slice (some ⟨g1,o1,none⟩) 32 c1,.agg (pcs X Y Z T),.slice (some ⟨g2,o2,none⟩) 32 c2] w (PostQ (Fe.bothS x y (Fe.zf Fe.bX) (Fe.zf Fe.bY) (bitB b1) (bitB b2) 256 256).1 (Fe.bothS x y (Fe.zf Fe.bX) (Fe.zf Fe.bY) (bitB b1) (bitB b2) 256 256).2 w):=by
 have hbx1:=Lib.hid (fun w1 (hb:Below w.heap.size w w1)=>sbits_c g1 o1 c1 b1 hr1 w1 (Nat.lt_of_lt_of_le hg1 hb.size) (fun j hj=>(hb.cell (p:=⟨g1,o1+j,none⟩) hg1).trans (hc1 j hj)))
 clear hr1 hg1 hc1
 have hbx2:=Lib.hid (fun w1 (hb:Below w.heap.size w w1)=>sbits_c g2 o2 c2 b2 hr2 w1 (Nat.lt_of_lt_of_le hg2 hb.size) (fun j hj=>(hb.cell (p:=⟨g2,o2+j,none⟩) hg2).trans (hc2 j hj)))
 clear hr2 hg2 hc2
 obtain ⟨xb,hxb⟩:∃ v,Fe.zf Fe.bX=v:=⟨_,rfl⟩
 obtain ⟨yb,hyb⟩:∃ v,Fe.zf Fe.bY=v:=⟨_,rfl⟩
 have hbase:=base_c
 rw [hxb,hyb] at hbase ⊢
 replace hbase:=Lib.hid hbase
 clear hxb hyb
 obtain ⟨A,hA⟩:∃ A:Nat→Bool,A=(bitB b1):=⟨_,rfl⟩
 obtain ⟨B,hB⟩:∃ B:Nat→Bool,B=(bitB b2):=⟨_,rfl⟩
 rw [← hA,← hB]
 replace hB:=Lib.hid hB
 replace hA:=Lib.hid hA
 replace hp:=Lib.hid hp
 replace hCv:=Lib.hid hCv
 obtain ⟨S,hS⟩:∃ S,S=Fe.bothS x y xb yb A B 256:=⟨_,rfl⟩
 rw [← hS]
 have hS0:S 0=(0,1):=by rw [hS];rfl
 have hS1:∀ k,S (k+1)=if B (256-1-k) then (Fe.ax (stepF x y (S k) (A (256-1-k))).1 (stepF x y (S k) (A (256-1-k))).2 xb yb,Fe.ay (stepF x y (S k) (A (256-1-k))).1 (stepF x y (S k) (A (256-1-k))).2 xb yb) else stepF x y (S k) (A (256-1-k)):=fun k=>by rw [hS];rfl
 clear hS
 replace hS0:=Lib.hid hS0
 replace hS1:=Lib.hid hS1
 go_enter Tryz.func165,Tryz.ntmps165
 go_wp2_with fail
 refine calls_at (fun W0 hW=>?_)
 have k4:Blk W0 w.heap.size 204 (pcs X Y Z T):=by rw [hW];exact (Blk.new _ _ _).alloc _
 have k6:Blk W0 (w.heap.size+1) 204 (pcs ⟨0,0,0,0,0⟩ ⟨0,0,0,0,0⟩ ⟨0,0,0,0,0⟩ ⟨0,0,0,0,0⟩):=by rw [hW];exact blk_at (by simp) (Blk.new _ _ _)
 have hb0:Below w.heap.size w W0:=by rw [hW];go_grown
 clear hW
 obtain ⟨G6,hG6⟩:∃ G,G=w.heap.size+1:=⟨_,rfl⟩
 obtain ⟨G4,hG4⟩:∃ G,G=w.heap.size:=⟨_,rfl⟩
 rw [← hG6] at k6 ⊢
 rw [← hG4] at k4 ⊢
 have lo6:w.heap.size≤G6:=by omega
 clear hG4 hG6
 refine (hbx1.out W0 hb0).mono ?_
 rintro e v1 ⟨r1,cr1,hlo,rfl,hown,hrow1,hb⟩
 have hcr1:256≤cr1:=by
  rcases hown with ⟨_,h | ⟨g',cap,cur,h1,h2,h3,h4,h5,h6,h7⟩⟩
  ·exact absurd h.2 (by decide)
  injection h1 with _ _ h8
  omega
 clear hown
 have ltr1:r1<v1.heap.size:=(Nat.lt_or_ge r1 v1.heap.size).elim id (fun h=>by
  have:=hrow1 0 (by decide)
  simp only [World.cell?,Array.getElem?_eq_none h] at this
  cases this)
 clear hlo hbx1
 replace k4:=k4.below hb
 replace k6:=k6.below hb
 replace hb0:=hb0.trans (hb.mono hb0.size)
 clear hb
 replace hrow1:=Lib.hid hrow1
 go_wp2_with fail
 refine (hbx2.out v1 hb0).mono ?_
 rintro e v2 ⟨r2,cr2,hlo,rfl,hown,hrow2,hb⟩
 have hcr2:256≤cr2:=by
  rcases hown with ⟨_,h | ⟨g',cap,cur,h1,h2,h3,h4,h5,h6,h7⟩⟩
  ·exact absurd h.2 (by decide)
  injection h1 with _ _ h8
  omega
 clear hown
 have ltr2:r2<v2.heap.size:=(Nat.lt_or_ge r2 v2.heap.size).elim id (fun h=>by
  have:=hrow2 0 (by decide)
  simp only [World.cell?,Array.getElem?_eq_none h] at this
  cases this)
 clear hlo hbx2
 replace k4:=k4.below hb
 replace k6:=k6.below hb
 replace hb0:=hb0.trans (hb.mono hb0.size)
 replace hrow1:=Lib.hid (fun j hj=>(hb.cell (p:=⟨r1,j,none⟩) ltr1).trans (hrow1.out j hj))
 replace ltr1:r1<v2.heap.size:=Nat.lt_of_lt_of_le ltr1 hb.size
 clear hb
 replace hrow2:=Lib.hid hrow2
 go_wp2_with (first | (at_builtin;refine Lib.wpList_append_run _ rfl _ _ _ _ rfl _ _ rfl rfl _ _ (run_app0b _ _ _ _ _ (by omega)) ?_))
 have hq1:∀ j,j<256→v2.cell? ⟨r1,j,none⟩=some (.bool (A j)):=fun j hj=>by rw [hA.out];exact hrow1.out j hj
 have hq2:∀ j,j<256→v2.cell? ⟨r2,j,none⟩=some (.bool (B j)):=fun j hj=>by rw [hB.out];exact hrow2.out j hj
 clear hrow1 hrow2
 replace hq1:=Lib.hid hq1
 replace hq2:=Lib.hid hq2
 clear hA hB
 refine (hbase.out v2 (hCv.out.below hb0 hCv.out.lt)).mono ?_
 rintro e v3 ⟨X2,Y2,Z2,T2,rfl,hE2,hb⟩
 replace hE2:=Lib.hid hE2
 replace k4:=k4.below hb
 replace k6:=k6.below hb
 replace hb0:=hb0.trans (hb.mono hb0.size)
 replace hq1:=Lib.hid (fun j hj=>(hb.cell (p:=⟨r1,j,none⟩) ltr1).trans (hq1.out j hj))
 replace hq2:=Lib.hid (fun j hj=>(hb.cell (p:=⟨r2,j,none⟩) ltr2).trans (hq2.out j hj))
 replace ltr1:=Nat.lt_of_lt_of_le ltr1 hb.size
 replace ltr2:=Nat.lt_of_lt_of_le ltr2 hb.size
 clear hb hbase
 have k4lt:=k4.lt
 have k6lt:=k6.lt
 go_wp2_with (refine stPt rfl rfl rfl rfl (Blk.new _ _ _) rfl rfl (by kernel_rfl) ?_;intro v4 k9 hgr hsz)
 have hb:Below v3.heap.size v3 v4:=((Below.refl _ _).alloc (Nat.le_refl _) _).grown hgr (by rw [World.size_alloc];omega) (fun k hk=>by injection hk with hk;omega)
 obtain ⟨G9,hG9⟩:∃ G,G=v3.heap.size:=⟨_,rfl⟩
 rw [← hG9] at k9 ⊢
 clear hG9 hgr hsz k4lt k6lt
 replace k4:=k4.below hb
 replace k6:=k6.below hb
 replace hb0:=hb0.trans (hb.mono hb0.size)
 replace hq1:=Lib.hid (fun j hj=>(hb.cell (p:=⟨r1,j,none⟩) ltr1).trans (hq1.out j hj))
 replace hq2:=Lib.hid (fun j hj=>(hb.cell (p:=⟨r2,j,none⟩) ltr2).trans (hq2.out j hj))
 replace ltr1:=Nat.lt_of_lt_of_le ltr1 hb.size
 replace ltr2:=Nat.lt_of_lt_of_le ltr2 hb.size
 clear hb
 refine (zero4_c _).mono ?_
 rintro e v5 ⟨rfl,hb⟩
 replace k4:=k4.below hb
 replace k6:=k6.below hb
 replace k9:=k9.below hb
 replace hb0:=hb0.trans (hb.mono hb0.size)
 replace hq1:=Lib.hid (fun j hj=>(hb.cell (p:=⟨r1,j,none⟩) ltr1).trans (hq1.out j hj))
 replace hq2:=Lib.hid (fun j hj=>(hb.cell (p:=⟨r2,j,none⟩) ltr2).trans (hq2.out j hj))
 replace ltr1:=Nat.lt_of_lt_of_le ltr1 hb.size
 replace ltr2:=Nat.lt_of_lt_of_le ltr2 hb.size
 clear hb
 have hlt:=k6.lt
 have hlt4:=k4.lt
 have hlt9:=k9.lt
 go_wp2_with (refine stSm (X:=⟨0,0,0,0,0⟩) (Y:=⟨1,0,0,0,0⟩) (Z:=⟨1,0,0,0,0⟩) (T:=⟨0,0,0,0,0⟩) rfl rfl rfl rfl (Blk.new _ _ _) rfl ?_;intro v6 kS1 hgr hsz;obtain ⟨V6,hV6⟩:∃ V:Value,V=.agg #[.int .u64 0,.int .u64 0,.int .u64 0,.int .u64 0,.int .u64 0,.int .u64 1,.int .u64 0,.int .u64 0,.int .u64 0,.int .u64 0,.int .u64 1,.int .u64 0,.int .u64 0,.int .u64 0,.int .u64 0,.int .u64 0,.int .u64 0,.int .u64 0,.int .u64 0,.int .u64 0]:=⟨_,rfl⟩;rw [← hV6];clear hV6)
 have hb:Below v5.heap.size v5 v6:=((Below.refl _ _).alloc (Nat.le_refl _) _).grown hgr (by rw [World.size_alloc];omega) (fun k hk=>by injection hk with hk;omega)
 have kS:SumQ v6 v5.heap.size (S 0).1 (S 0).2:=by rw [hS0.out];exact ⟨_,_,_,_,kS1,ptE_zero⟩
 clear kS1 hgr hsz hS0
 obtain ⟨GS,hGS⟩:∃ GS,GS=v5.heap.size:=⟨_,rfl⟩
 rw [← hGS] at kS ⊢
 have n4S:=Lib.hid (show GS≠G4 by omega)
 have n6S:=Lib.hid (show GS≠G6 by omega)
 have n9S:=Lib.hid (show GS≠G9 by omega)
 have loS:w.heap.size≤GS:=by have:=hb0.size;omega
 have nr1:=Lib.hid (show r1≠GS by omega)
 have nr2:=Lib.hid (show r2≠GS by omega)
 replace k4:=k4.below hb
 replace k6:=k6.below hb
 replace k9:=k9.below hb
 replace hb0:=hb0.trans (hb.mono hb0.size)
 replace hq1:=Lib.hid (fun j hj=>(hb.cell (p:=⟨r1,j,none⟩) ltr1).trans (hq1.out j hj))
 replace hq2:=Lib.hid (fun j hj=>(hb.cell (p:=⟨r2,j,none⟩) ltr2).trans (hq2.out j hj))
 replace ltr1:=Nat.lt_of_lt_of_le ltr1 hb.size
 replace ltr2:=Nat.lt_of_lt_of_le ltr2 hb.size
 clear hb hGS hlt hlt4 hlt9
 replace kS:=Lib.hid kS
 go_loopw [11] (fun i wr=>∃ k:Nat,k≤256∧i=.int .i64 (256-1-k)∧SumQ wr GS (S k).1 (S k).2∧Blk wr G4 204 (pcs X Y Z T)∧Blk wr G9 204 (pcs X2 Y2 Z2 T2)∧Blk wr G6 204 (pcs ⟨0,0,0,0,0⟩ ⟨0,0,0,0,0⟩ ⟨0,0,0,0,0⟩ ⟨0,0,0,0,0⟩)∧(∀ j,j<256→wr.cell? ⟨r1,j,none⟩=some (.bool (A j)))∧(∀ j,j<256→wr.cell? ⟨r2,j,none⟩=some (.bool (B j)))∧r1<wr.heap.size∧r2<wr.heap.size∧Below w.heap.size w wr) (fun i _=>(intOf i+1).toNat)
 case atStart=>exact ⟨0,by omega,by simp,kS.out,k4,k9,k6,hq1.out,hq2.out,ltr1,ltr2,hb0⟩
 case round =>
  clear kS k4 k9 k6 hb0 hq1 hq2 ltr1 ltr2
  obtain ⟨k,hk,hi,hS,k4,k9,k6,hq1,hq2,ltr1,ltr2,hb0⟩:=hrel
  subst hi
  by_cases he:k=256
  ·as_aux_lemma =>
   subst he
   obtain ⟨X3,Y3,Z3,T3,kS,hE⟩:=hS
   replace hE:=Lib.hid hE
   clear hq1 hq2 ltr1 ltr2
   go_wp2_with (first | (refine ldPt rfl rfl rfl kS rfl ?_) | (refine stPt rfl rfl rfl rfl k6 rfl rfl (by kernel_rfl) ?_;intro w9 k7 hgr hsz))
   exact retPt rfl rfl k7 rfl rfl ⟨X3,Y3,Z3,T3,rfl,hE.out,hb0.grown hgr hb0.size (fun k hk=>by injection hk with hk;omega)⟩
  ·as_aux_lemma =>
   obtain ⟨j,hj⟩:∃ j,j=255-k:=⟨_,rfl⟩
   have hjn:j<256:=by omega
   have hj1:(j:Int)<256:=by omega
   have hj0:(0:Int)≤(j:Int):=by omega
   have hij:(256:Int)-1-k=(j:Int):=by omega
   rw [hij]
   have hSk:=hS1.out k
   rw [show 256-1-k=j by omega] at hSk
   have e1:=hq1 j hjn
   have e2:=hq2 j hjn
   have hkm:Hid (k<256):=Lib.hid (by omega)
   have hjk:Hid (j=255-k):=Lib.hid hj
   clear he hk hij hj
   replace hSk:=Lib.hid hSk
   replace hq1:=Lib.hid hq1
   replace hq2:=Lib.hid hq2
   have hkS:=Lib.hid hS
   have gS:=hS.lt
   have hC:=hCv.out.below hb0 hCv.out.lt
   have loC:3<GS:=by have:=hCv.out.lt;omega
   clear hS
   go_wp2_with fail
   refine (tdbl_c GS wr hkS.out).mono ?_
   rintro e w5 ⟨rfl,hS5,hg⟩
   replace k4:=k4.grown hg (fun h=>n4S.out (by injection h with h;exact h.symm))
   replace k9:=k9.grown hg (fun h=>n9S.out (by injection h with h;exact h.symm))
   replace k6:=k6.grown hg (fun h=>n6S.out (by injection h with h;exact h.symm))
   replace hb0:=hb0.grown hg hb0.size (fun k hk=>by injection hk with hk;omega)
   replace hC:=hC.grown hg loC
   replace e1:=(hg.cell_far ⟨r1,j,none⟩ ltr1 (fun e=>nr1.out (Option.some.inj e))).trans e1
   replace e2:=(hg.cell_far ⟨r2,j,none⟩ ltr2 (fun e=>nr2.out (Option.some.inj e))).trans e2
   replace hq1:=Lib.hid (fun j hj=>(hg.cell_far ⟨r1,j,none⟩ ltr1 (fun e=>nr1.out (Option.some.inj e))).trans (hq1.out j hj))
   replace hq2:=Lib.hid (fun j hj=>(hg.cell_far ⟨r2,j,none⟩ ltr2 (fun e=>nr2.out (Option.some.inj e))).trans (hq2.out j hj))
   replace ltr1:=Nat.lt_of_lt_of_le ltr1 hg.size
   replace ltr2:=Nat.lt_of_lt_of_le ltr2 hg.size
   clear hg gS hkS
   replace hS5:=Lib.hid hS5
   cases hAj:A j <;> cases hBj:B j <;> rw [hAj] at e1 <;> rw [hBj] at e2 <;> rw [hAj,hBj] at hSk
   ·skip
    go_wp2
    go_roundw
    case rel=>exact ⟨k+1,hkm.out,by have:=hjk.out;have:=hkm.out;congr 1;omega,by rw [hSk.out];exact hS5.out,k4,k9,k6,hq1.out,hq2.out,ltr1,ltr2,hb0⟩
    case measure=>have:=hjk.out;first | (simp [intOf];done) | (simp [intOf];omega)
   ·skip
    go_wp2_with (first | (refine ldPt rfl rfl rfl k9 rfl ?_))
    refine (tadd_c GS w5 hS5.out hE2.out hC).mono ?_
    rintro e w7 ⟨rfl,hSw7,hg⟩
    replace k4:=k4.grown hg (fun h=>n4S.out (by injection h with h;exact h.symm))
    replace k9:=k9.grown hg (fun h=>n9S.out (by injection h with h;exact h.symm))
    replace k6:=k6.grown hg (fun h=>n6S.out (by injection h with h;exact h.symm))
    replace hb0:=hb0.grown hg hb0.size (fun k hk=>by injection hk with hk;omega)
    replace hC:=hC.grown hg loC
    replace e1:=(hg.cell_far ⟨r1,j,none⟩ ltr1 (fun e=>nr1.out (Option.some.inj e))).trans e1
    replace e2:=(hg.cell_far ⟨r2,j,none⟩ ltr2 (fun e=>nr2.out (Option.some.inj e))).trans e2
    replace hq1:=Lib.hid (fun j hj=>(hg.cell_far ⟨r1,j,none⟩ ltr1 (fun e=>nr1.out (Option.some.inj e))).trans (hq1.out j hj))
    replace hq2:=Lib.hid (fun j hj=>(hg.cell_far ⟨r2,j,none⟩ ltr2 (fun e=>nr2.out (Option.some.inj e))).trans (hq2.out j hj))
    replace ltr1:=Nat.lt_of_lt_of_le ltr1 hg.size
    replace ltr2:=Nat.lt_of_lt_of_le ltr2 hg.size
    clear hg
    replace hSw7:=Lib.hid hSw7
    go_wp2
    go_roundw
    case rel=>exact ⟨k+1,hkm.out,by have:=hjk.out;have:=hkm.out;congr 1;omega,by rw [hSk.out];exact hSw7.out,k4,k9,k6,hq1.out,hq2.out,ltr1,ltr2,hb0⟩
    case measure=>have:=hjk.out;first | (simp [intOf];done) | (simp [intOf];omega)
   ·skip
    go_wp2_with (first | (refine ldPt rfl rfl rfl k4 rfl ?_))
    refine (tadd_c GS w5 hS5.out hp.out hC).mono ?_
    rintro e w6 ⟨rfl,hSw6,hg⟩
    replace k4:=k4.grown hg (fun h=>n4S.out (by injection h with h;exact h.symm))
    replace k9:=k9.grown hg (fun h=>n9S.out (by injection h with h;exact h.symm))
    replace k6:=k6.grown hg (fun h=>n6S.out (by injection h with h;exact h.symm))
    replace hb0:=hb0.grown hg hb0.size (fun k hk=>by injection hk with hk;omega)
    replace hC:=hC.grown hg loC
    replace e1:=(hg.cell_far ⟨r1,j,none⟩ ltr1 (fun e=>nr1.out (Option.some.inj e))).trans e1
    replace e2:=(hg.cell_far ⟨r2,j,none⟩ ltr2 (fun e=>nr2.out (Option.some.inj e))).trans e2
    replace hq1:=Lib.hid (fun j hj=>(hg.cell_far ⟨r1,j,none⟩ ltr1 (fun e=>nr1.out (Option.some.inj e))).trans (hq1.out j hj))
    replace hq2:=Lib.hid (fun j hj=>(hg.cell_far ⟨r2,j,none⟩ ltr2 (fun e=>nr2.out (Option.some.inj e))).trans (hq2.out j hj))
    replace ltr1:=Nat.lt_of_lt_of_le ltr1 hg.size
    replace ltr2:=Nat.lt_of_lt_of_le ltr2 hg.size
    clear hg
    replace hSw6:=Lib.hid hSw6
    go_wp2
    go_roundw
    case rel=>exact ⟨k+1,hkm.out,by have:=hjk.out;have:=hkm.out;congr 1;omega,by rw [hSk.out];exact hSw6.out,k4,k9,k6,hq1.out,hq2.out,ltr1,ltr2,hb0⟩
    case measure=>have:=hjk.out;first | (simp [intOf];done) | (simp [intOf];omega)
   ·skip
    go_wp2_with (first | (refine ldPt rfl rfl rfl k4 rfl ?_))
    refine (tadd_c GS w5 hS5.out hp.out hC).mono ?_
    rintro e w6 ⟨rfl,hSw6,hg⟩
    replace k4:=k4.grown hg (fun h=>n4S.out (by injection h with h;exact h.symm))
    replace k9:=k9.grown hg (fun h=>n9S.out (by injection h with h;exact h.symm))
    replace k6:=k6.grown hg (fun h=>n6S.out (by injection h with h;exact h.symm))
    replace hb0:=hb0.grown hg hb0.size (fun k hk=>by injection hk with hk;omega)
    replace hC:=hC.grown hg loC
    replace e1:=(hg.cell_far ⟨r1,j,none⟩ ltr1 (fun e=>nr1.out (Option.some.inj e))).trans e1
    replace e2:=(hg.cell_far ⟨r2,j,none⟩ ltr2 (fun e=>nr2.out (Option.some.inj e))).trans e2
    replace hq1:=Lib.hid (fun j hj=>(hg.cell_far ⟨r1,j,none⟩ ltr1 (fun e=>nr1.out (Option.some.inj e))).trans (hq1.out j hj))
    replace hq2:=Lib.hid (fun j hj=>(hg.cell_far ⟨r2,j,none⟩ ltr2 (fun e=>nr2.out (Option.some.inj e))).trans (hq2.out j hj))
    replace ltr1:=Nat.lt_of_lt_of_le ltr1 hg.size
    replace ltr2:=Nat.lt_of_lt_of_le ltr2 hg.size
    clear hg
    replace hSw6:=Lib.hid hSw6
    go_wp2_with (first | (refine ldPt rfl rfl rfl k9 rfl ?_))
    refine (tadd_c GS w6 hSw6.out hE2.out hC).mono ?_
    rintro e w7 ⟨rfl,hSw7,hg⟩
    replace k4:=k4.grown hg (fun h=>n4S.out (by injection h with h;exact h.symm))
    replace k9:=k9.grown hg (fun h=>n9S.out (by injection h with h;exact h.symm))
    replace k6:=k6.grown hg (fun h=>n6S.out (by injection h with h;exact h.symm))
    replace hb0:=hb0.grown hg hb0.size (fun k hk=>by injection hk with hk;omega)
    replace hC:=hC.grown hg loC
    replace e1:=(hg.cell_far ⟨r1,j,none⟩ ltr1 (fun e=>nr1.out (Option.some.inj e))).trans e1
    replace e2:=(hg.cell_far ⟨r2,j,none⟩ ltr2 (fun e=>nr2.out (Option.some.inj e))).trans e2
    replace hq1:=Lib.hid (fun j hj=>(hg.cell_far ⟨r1,j,none⟩ ltr1 (fun e=>nr1.out (Option.some.inj e))).trans (hq1.out j hj))
    replace hq2:=Lib.hid (fun j hj=>(hg.cell_far ⟨r2,j,none⟩ ltr2 (fun e=>nr2.out (Option.some.inj e))).trans (hq2.out j hj))
    replace ltr1:=Nat.lt_of_lt_of_le ltr1 hg.size
    replace ltr2:=Nat.lt_of_lt_of_le ltr2 hg.size
    clear hg
    replace hSw7:=Lib.hid hSw7
    go_wp2
    go_roundw
    case rel=>exact ⟨k+1,hkm.out,by have:=hjk.out;have:=hkm.out;congr 1;omega,by rw [hSk.out];exact hSw7.out,k4,k9,k6,hq1.out,hq2.out,ltr1,ltr2,hb0⟩
    case measure=>have:=hjk.out;first | (simp [intOf];done) | (simp [intOf];omega)
end Go.Proofs.YtnopjabcdloepaaGreatDoor
