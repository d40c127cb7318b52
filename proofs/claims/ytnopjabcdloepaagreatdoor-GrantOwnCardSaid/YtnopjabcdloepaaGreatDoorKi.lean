import Derived.Test.YtnopjabcdloepaaGreatDoorKh
import Derived.Deep.RegionHeld3
namespace Go.Proofs.YtnopjabcdloepaaGreatDoor.Rc
open Go Go.RowKit
def kyB (i:Nat):Nat→Int:=Sh.ptI (Sh.keyP (sdB (i:Int)))
def Gr4 (L:List GrV):Prop:=L.length=4∧∀ (i:Nat) (x:GrV),L[i]?=some x→x.cl=((i+1:Nat):Int)∧x.pub=fL 32 (kyB (i+1))∧x.pre=⟨#[]⟩
def PostGr (w:World) (e:Ending) (w':World):Prop:=∃ p c L,e=.returned (.slice p 4 c)∧Gr4 L∧GsAt w' p L∧Below w.heap.size w w'
set_option maxRecDepth 20000 in
set_option maxHeartbeats 4000000 in
theorem grants29_c (w:World) (hS:ShP w) (hCv:CvP w):Calls Tryz.prog 71 #[] w (PostGr w):=by
 have hB:=hS.lt
 obtain ⟨F,hF⟩:∃ F:Nat→Nat→Int,∀ i,F i=sdB (i:Int):=⟨fun i=>sdB (i:Int),fun _=>rfl⟩
 obtain ⟨K,hK⟩:∃ K:Nat→Nat→Int,∀ i,K i=kyB i:=⟨fun i=>kyB i,fun _=>rfl⟩
 have hse:=Lib.hid (fun (i:Nat) w1=>show Calls Tryz.prog 84 #[.int .i64 (i:Int)] w1 (PostBs 32 (F i) w1) from by rw [hF];exact seed29_c (i:Int) w1)
 have hPub:=Lib.hid (fun (i:Nat) g c w1 (k:RowB w1 g 32 c (F i)) (hb:Below w.heap.size w w1)=>show Calls Tryz.prog 37 #[.slice (some ⟨g,0,none⟩) 32 c] w1 (PostBs 32 (K i) w1) from by rw [hF] at k;rw [hK];exact Public_c (some ⟨g,0,none⟩) c (sdB (i:Int)) k.cap (fun j _=>sdB_byt _ j) w1 k.bx (hS.below hb hB) (by have:=hb.size;omega) (hCv.below hb hCv.lt))
 replace hK:=Lib.hid hK
 obtain ⟨G,hG⟩:∃ G,G=w.heap.size:=⟨_,rfl⟩
 replace hG:=Lib.hid hG
 clear hS hCv hF hB
 go_enter Tryz.func71,Tryz.ntmps71
 go_wp2_with fail
 go_loopw [1,2,3] (fun v i _ wr=>∃ (k:Nat) (p:Option Addr) (c:Nat) (L:List GrV),k≤4∧i=.int .i64 ((k+1:Nat):Int)∧v=.slice p k c∧L.length=k∧RowsG G wr (.slice p k c) L∧(∀ (i:Nat) (x:GrV),L[i]?=some x→x.cl=((i+1:Nat):Int)∧x.pub=fL 32 (K (i+1))∧x.pre=⟨#[]⟩)∧(∀ x∈L,∀ a,x.q=some a→a.block<wr.heap.size)∧Below w.heap.size w wr) (fun _ i _ _=>(5-intOf i).toNat)
 case atStart=>exact ⟨0,none,0,[],by omega,by rfl,rfl,rfl,RowsG.nil _ _,(fun i x h=>by simp at h),(fun x (h:x∈([]:List GrV))=>absurd h (by simp)),Below.refl _ _⟩
 case round =>
  obtain ⟨k,p,c,L,hk,rfl,rfl,hLk,hR,hL,hlt,hb⟩:=hrel
  replace hR:=Lib.hid hR
  replace hL:=Lib.hid hL
  replace hlt:=Lib.hid hlt
  replace hLk:=Lib.hid hLk
  replace hb:=Lib.hid hb
  by_cases he:k=4
  ·subst he
   clear hse hPub hk
   go_wp2
   go_returns
   exact ⟨p,c,L,rfl,⟨hLk.out,fun i x hx=>by have:=hL.out i x hx;rw [hK.out] at this;exact this⟩,hR.out.at,hb.out⟩
  have hi:((k+1:Nat):Int)≤4:=by omega
  have hi0:(0:Int)≤((k+1:Nat):Int):=by omega
  have cS:=Lib.hid (hse.out (k+1))
  have cP:=Lib.hid (hPub.out (k+1))
  have hk4:=Lib.hid (show k+1≤4 by omega)
  obtain ⟨m,hm⟩:∃ m,m=k+1:=⟨_,rfl⟩
  rw [← hm] at cS cP hi hi0 ⊢
  have hwk:IntKind.i64.wrap ((m:Int)+1)=((m+1:Nat):Int):=by rw [IntKind.wrap_i64];omega
  replace hm:=Lib.hid hm
  clear he hk
  go_wp2_with fail
  refine (cS.out wr).mono ?_
  rintro e w2 ⟨g2,c2,rfl,lg2,kq,hb2⟩
  have l1:=hb2.size
  replace hR:=Lib.hid (hR.out.below hb2)
  replace hb:=Lib.hid (hb.out.trans (hb2.mono hb.out.size))
  clear hb2
  go_wp2_with fail
  refine (cP.out g2 c2 w2 kq hb.out).mono ?_
  rintro e w3 ⟨g3,c3,rfl,lg3,kp,hb2⟩
  have l2:=hb2.size
  have hGs:G≤w2.heap.size:=by have:=hG.out;have:=hb.out.size;omega
  have hne:(Value.slice p k c).ownBlock≠some g3:=fun e=>by
   have:=(hR.out.own.lt _ e).2
   omega
  replace hR:=Lib.hid (hR.out.below hb2)
  replace hb:=Lib.hid (hb.out.trans (hb2.mono hb.out.size))
  replace hGs:=Nat.le_trans hGs l2
  replace hlt:=Lib.hid (fun x (hx:x∈L) a ha=>Nat.lt_of_lt_of_le (hlt.out x hx a ha) (Nat.le_trans l1 l2))
  have lkp:=kp.lt
  replace kp:=Lib.hid kp
  replace hne:=Lib.hid hne
  clear hb2 cS cP kq l1 l2 lg2 lg3
  go_wp2_with (at_builtin;refine wpList_appG rfl rfl rfl ⟨(m:Int),some ⟨g3,0,none⟩,c3,fL 32 (K m),⟨#[]⟩⟩ (hR.out.below ((Below.refl _ _).alloc (Nat.le_refl _) _)) rfl (by simp only [GrV.cs,fL_len];exact Blk.new _ _ _) (rowB_l (kp.out.below ((Below.refl _ _).alloc (Nat.le_refl _) _))) (fun a ha=>by injection ha with ha;rw [← ha];exact hne.out) (fun a ha=>by injection ha with ha;rw [← ha,World.size_alloc];show g3<_;omega) (by have:=hLk.out;have:=hk4.out;omega) (by simp;omega) ?_ (fun x hx a ha=>by have:=hlt.out x hx a ha;rw [World.size_alloc];omega);intro v' w' hRn hgr)
  obtain ⟨p',c',rfl⟩:=hRn.sl
  have hbA:Below w.heap.size w w':=(hb.out.alloc hb.out.size _).grown hgr (by have:=hb.out.size;simp;omega) (fun kk hk=>by have:=(hR.out.own.lt kk hk).1;have:=hG.out;omega)
  have hws:=hgr.size
  clear hgr
  have hll:(L++[(⟨(m:Int),some ⟨g3,0,none⟩,c3,fL 32 (K m),⟨#[]⟩⟩:GrV)]).length=k+1:=by rw [List.length_append,hLk.out];rfl
  rw [hll] at hRn ⊢
  refine ⟨⟨k+1,p',c',_,hk4.out,congrArg (fun z=>Value.int .i64 z) (by have:=hm.out;omega),rfl,hll,hRn,fun i x hx=>?_,fun x hx a ha=>?_,hbA⟩,by have:=hk4.out;have:=hm.out;simp [intOf];omega⟩
  ·by_cases hil:i<L.length
   ·rw [List.getElem?_append_left hil] at hx
    exact hL.out i x hx
   have hlt2:=(List.getElem?_eq_some_iff.1 hx).1
   rw [hll] at hlt2
   have e:i=L.length:=by have:=hLk.out;omega
   subst e
   rw [List.getElem?_append_right (Nat.le_refl _),Nat.sub_self] at hx
   obtain rfl:_=x:=by simpa using hx
   rw [hLk.out,← hm.out]
   exact ⟨rfl,rfl,rfl⟩
  rw [World.size_alloc] at hws
  rcases List.mem_append.1 hx with hx | hx
  ·have:=hlt.out x hx a ha
   omega
  obtain rfl:x=_:=by simpa using hx
  injection ha with ha
  rw [← ha]
  show g3<_
  omega
theorem Gr4.f {L:List GrV} (h:Gr4 L) {t:Nat} (h1:1≤t) (h4:t≤4):∃ x,fG L (t:Int)=some x∧x.pub=fL 32 (kyB t)∧x.pre=⟨#[]⟩∧x.cl=(t:Int):=by
 obtain ⟨hl,hc⟩:=h
 obtain ⟨x,hx⟩:∃ x,L[t-1]?=some x:=⟨_,List.getElem?_eq_getElem (by omega)⟩
 obtain ⟨e1,e2,e3⟩:=hc _ _ hx
 rw [show t-1+1=t by omega] at e1 e2
 refine ⟨x,fG_some hx e1 (fun j y hj hy=>?_),e2,e3,e1⟩
 have:=(hc j y hy).1
 omega
theorem Gr4.n {L:List GrV} (h:Gr4 L) {t:Int} (ht:t<1∨4<t):fG L t=none:=fG_none fun j y hj=>by
 have h1:=(h.2 j y hj).1
 have h2:=(List.getElem?_eq_some_iff.1 hj).1
 have h3:=h.1
 omega
theorem Gr4.right {L:List GrV} (h:Gr4 L):rightG 0 L=true:=by
 obtain ⟨hl,hc⟩:=h
 have key:∀ (k:Nat),k≤4→rightG ((4-k:Nat):Int) (L.drop (4-k))=true:=by
  intro k
  induction k with
  | zero=>intro _;rw [List.drop_of_length_le (by omega)];rfl
  | succ k ih =>
   intro hk
   have hkl:4-(k+1)<L.length:=by omega
   obtain ⟨x,hx⟩:∃ x,L[4-(k+1)]?=some x:=⟨_,List.getElem?_eq_getElem hkl⟩
   have hd:L.drop (4-(k+1))=x::L.drop (4-(k+1)+1):=by rw [List.drop_eq_getElem_cons hkl];congr 1;exact Option.some.inj ((List.getElem?_eq_getElem hkl).symm.trans hx)
   obtain ⟨e1,e2,e3⟩:=hc _ _ hx
   rw [hd,rightG_yes ⟨by omega,by omega,by rw [e2,fL_len],by rw [e3];decide⟩,e1,show 4-(k+1)+1=4-k by omega]
   exact ih (by omega)
 exact key 4 (Nat.le_refl _)
end Go.Proofs.YtnopjabcdloepaaGreatDoor.Rc

namespace Go.Proofs.YtnopjabcdloepaaGreatDoor.Rc
open Go Go.RowKit
theorem blk4v {w:World} {g:Nat} {t:TypeId} {x0 x1 x2 x3:Value} (h:Blk w g t #[x0,x1,x2,x3]):w.cell? ⟨g,0,none⟩=some x0∧w.cell? ⟨g,1,none⟩=some x1∧w.cell? ⟨g,2,none⟩=some x2∧w.cell? ⟨g,3,none⟩=some x3:=⟨h.cell 0,h.cell 1,h.cell 2,h.cell 3⟩
def fgB (LG:List GrV) (Lg:List RecD) (r:RecD):Bool:=match fG LG r.cl with
 | none=>false
 | some x=>decide (ckR (gB x.pub) r=0) && !hasT recT Lg (recT r)
set_option maxRecDepth 20000 in
set_option maxHeartbeats 4000000 in
theorem forged_s (p:Option Addr) (n c:Nat) (LG:List GrV) (hn:n=LG.length) (hn2:n≤1000000) (x:GrV) (h32:x.pub.length=32) (hbr:BR x.pub) (B gb:Nat) (S:List Nat) (Lg:List RecD) (M:List RootD) (r:RecD) (hok:r.ok) (hx:fG LG r.cl=some x) (p1:Option Addr) (c1:Nat) (p2:Option Addr) (c2:Nat) (p3:Option Addr) (c3:Nat) (hc3:r.ss.length≤c3) (w:World) (hG:GsAt w p LG) (hGS:GS B w S gb Lg M) (hD:DotsL w p1 r.n r.ds) (hV:BytesL w p2 r.vs) (hSs:BytesL w p3 r.ss) (hS:ShP w) (hCv:CvP w) :
  Calls Tryz.prog 155 #[.agg #[.pointer (some ⟨gb,0,none⟩),.slice p n c,.slice none 0 0,.slice none 0 0],recV r p1 c1 p2 c2 p3 c3] w (PostV (.bool (fgB LG Lg r)) w):=by
 have hB:=hS.lt
 have hfi:=Lib.hid (fun w1 (hb:Below w.heap.size w w1)=>Find_s p n c LG r.cl x hx hn hn2 (by omega) w1 (hG.below hb))
 have hck:=fun gk ok ck w1 (hb:Below w.heap.size w w1) (hl:32≤ck) (lk:gk<w1.heap.size) (hk:∀ j,j<32→w1.cell? ⟨gk,ok+j,none⟩=some (.int .u8 (gB x.pub j)))=>Check_any (gB x.pub) (gB_byt hbr) gk ok ck hl r hok p1 c1 p2 c2 p3 c3 hc3 w1 lk hk (hD.below hb) (hV.below hb) (hSs.below hb) (hS.below hb hB) (hCv.below hb hCv.lt)
 have hhs:=fun w1 (hb:Below w.heap.size w w1)=>gHas_c B gb S Lg M r (recV r p1 c1 p2 c2 p3 c3) hok w1 (hGS.below hb) ⟨p1,c1,p2,c2,p3,c3,rfl,⟨hD.1,RowF.of_row (hD.below hb).2⟩,RowF.of_row (hV.below hb),RowF.of_row (hSs.below hb)⟩
 obtain ⟨CK,hCK⟩:∃ CK,CK=ckR (gB x.pub) r:=⟨_,rfl⟩
 obtain ⟨HH,hHH⟩:∃ HH,HH=hasT recT Lg (recT r):=⟨_,rfl⟩
 obtain ⟨E,hE⟩:∃ E,E=fgB LG Lg r:=⟨_,rfl⟩
 have hE2:E=(decide (CK=0) && !HH):=by rw [hE,hCK,hHH];unfold fgB;rw [hx]
 rw [← hCK] at hck
 rw [← hHH] at hhs
 rw [← hE]
 replace hE2:=Lib.hid hE2
 clear hCK hHH hE
 obtain ⟨k,cl,sq,nd,ds,gone,vs,ss⟩:=r
 unfold recV at hck hhs ⊢
 unfold PostFg at hfi
 obtain ⟨xcl,xq,xc,xpub,xpre⟩:=x
 dsimp only at *
 obtain ⟨P,hP⟩:∃ P,P=gB xpub:=⟨_,rfl⟩
 rw [h32] at hfi
 rw [← hP] at hck
 replace hck:=Lib.hid hck
 replace hhs:=Lib.hid hhs
 replace hP:=Lib.hid hP
 replace h32:=Lib.hid h32
 clear hS hCv hG hGS hD hV hSs hx hn hn2 hbr hok hc3 hB
 go_enter Tryz.func155,Tryz.ntmps155
 go_wp2_with fail
 refine calls_at (fun W hW=>?_)
 have hb0:Below w.heap.size w W:=by rw [hW];go_grown
 obtain ⟨gA,hgA⟩:∃ g,g=w.heap.size:=⟨_,rfl⟩
 obtain ⟨gR,hgR⟩:∃ g,g=w.heap.size+1:=⟨_,rfl⟩
 have kA:Blk W gA 195 #[.pointer (some ⟨gb,0,none⟩),.slice p n c,.slice none 0 0,.slice none 0 0]:=by rw [hW,hgA];exact (Blk.new _ _ _).alloc _
 have kR:Blk W gR 45 #[.string k,.int .i64 cl,.int .i64 sq,.slice p1 nd c1,.bool gone,.slice p2 vs.length c2,.slice p3 ss.length c3]:=by rw [hW,hgR];exact blk_at (by simp) (Blk.new _ _ _)
 rw [← hgR,← hgA]
 clear hW hgA hgR
 refine (hfi.out W hb0).mono ?_
 rintro e w2 ⟨q',c',rfl,ho,hb⟩
 replace kA:=kA.below hb
 replace kR:=kR.below hb
 have hs0:=hb0.size
 replace hb0:=hb0.trans (hb.mono hb0.size)
 have ho2:w2.ownsRow 0 5 1 (.slice q' 32 c') 32 (bL xpub):=by exact own_mono ho (Nat.zero_le _)
 clear hb hfi ho
 obtain ⟨y0,y1,y2,y3,y4,y5,y6⟩:=blk7 kR
 have lR:=kR.lt
 go_wp2_with fail
 refine calls_at (fun W2 hW=>?_)
 have hb:Below w2.heap.size w2 W2:=by rw [hW];go_grown
 clear hW y0 y1 y2 y3 y4 y5 y6 lR
 replace kA:=kA.below hb
 replace kR:=kR.below hb
 replace hb0:=hb0.trans (hb.mono hb0.size)
 obtain ⟨q2,c2',e2,hc2,hbx⟩:=own_pv (below_kept ho2 hb)
 obtain ⟨rfl,e3,rfl⟩:q'=q2∧32=xpub.length∧c'=c2':=by injection e2 with a1 a2 a3;exact ⟨a1,a2,a3⟩
 rw [← e3] at hc2 hbx
 obtain ⟨gk,ok,rfl,lk,-,hk⟩:=hbx (by decide)
 refine (hck.out gk ok c' W2 hb0 hc2 lk (by rw [hP.out];exact hk)).mono ?_
 rintro e w3 ⟨rfl,hb2⟩
 replace kA:=kA.below hb2
 replace kR:=kR.below hb2
 replace hb0:=hb0.trans (hb2.mono hb0.size)
 clear hb hb2 hck hbx hk e2 e3 ho2
 by_cases h0:CK=0
 ·subst h0
  obtain ⟨y0,y1,y2,y3,y4,y5,y6⟩:=blk7 kR
  have z0:=(blk4v kA).1
  go_wp2_with fail
  refine (hhs.out w3 hb0).mono ?_
  rintro e w4 ⟨rfl,hb⟩
  replace hb0:=hb0.trans (hb.mono hb0.size)
  clear hb hhs y0 y1 y2 y3 y4 y5 y6 z0 kA kR
  go_wp2_with fail
  go_returns
  exact ⟨by rw [hE2.out];rfl,hb0⟩
 have b0:(CK==0)=false:=by simp [h0]
 have hE3:=Lib.hid (show E=false by rw [hE2.out,decide_eq_false h0];rfl)
 clear h0 hE2
 go_wp2_with fail
 go_returns
 exact ⟨by rw [hE3.out];rfl,hb0⟩
set_option maxRecDepth 20000 in
set_option maxHeartbeats 4000000 in
theorem forged_n (p:Option Addr) (n c:Nat) (LG:List GrV) (hn:n=LG.length) (hn2:n≤1000000) (Lg:List RecD) (r:RecD) (hx:fG LG r.cl=none) (p1:Option Addr) (c1:Nat) (p2:Option Addr) (c2:Nat) (p3:Option Addr) (c3:Nat) (gb:Nat) (w:World) (hG:GsAt w p LG) :
  Calls Tryz.prog 155 #[.agg #[.pointer (some ⟨gb,0,none⟩),.slice p n c,.slice none 0 0,.slice none 0 0],recV r p1 c1 p2 c2 p3 c3] w (PostV (.bool (fgB LG Lg r)) w):=by
 have hfi:=Lib.hid (fun w1 (hb:Below w.heap.size w w1)=>Find_n p n c LG r.cl hx hn hn2 w1 (hG.below hb))
 have hE:fgB LG Lg r=false:=by unfold fgB;rw [hx]
 rw [hE]
 obtain ⟨k,cl,sq,nd,ds,gone,vs,ss⟩:=r
 unfold PostFg gr0 at hfi
 unfold recV
 dsimp only at *
 clear hG hx hn hn2 hE
 go_enter Tryz.func155,Tryz.ntmps155
 go_wp2_with fail
 refine calls_at (fun W hW=>?_)
 have hb0:Below w.heap.size w W:=by rw [hW];go_grown
 clear hW
 refine (hfi.out W hb0).mono ?_
 rintro e w2 ⟨q',c',rfl,-,hb⟩
 replace hb0:=hb0.trans (hb.mono hb0.size)
 clear hb hfi
 go_wp2_with fail
 go_returns
 exact ⟨rfl,hb0.alloc hb0.size _⟩
theorem forged_c (p:Option Addr) (n c:Nat) (LG:List GrV) (hn:n=LG.length) (hn2:n≤1000000) (hL:∀ x∈LG,x.pub.length=32∧BR x.pub) (B gb:Nat) (S:List Nat) (Lg:List RecD) (M:List RootD) (r:RecD) (hok:r.ok) (p1:Option Addr) (c1:Nat) (p2:Option Addr) (c2:Nat) (p3:Option Addr) (c3:Nat) (hc3:r.ss.length≤c3) (w:World) (hG:GsAt w p LG) (hGS:GS B w S gb Lg M) (hD:DotsL w p1 r.n r.ds) (hV:BytesL w p2 r.vs) (hSs:BytesL w p3 r.ss) (hS:ShP w) (hCv:CvP w) :
  Calls Tryz.prog 155 #[.agg #[.pointer (some ⟨gb,0,none⟩),.slice p n c,.slice none 0 0,.slice none 0 0],recV r p1 c1 p2 c2 p3 c3] w (PostV (.bool (fgB LG Lg r)) w):=by
 cases hx:fG LG r.cl with
 | none=>exact forged_n p n c LG hn hn2 Lg r hx p1 c1 p2 c2 p3 c3 gb w hG
 | some x=>exact forged_s p n c LG hn hn2 x (hL x (List.mem_of_find?_eq_some hx)).1 (hL x (List.mem_of_find?_eq_some hx)).2 B gb S Lg M r hok hx p1 c1 p2 c2 p3 c3 hc3 w hG hGS hD hV hSs hS hCv
end Go.Proofs.YtnopjabcdloepaaGreatDoor.Rc

namespace Go.Proofs.YtnopjabcdloepaaGreatDoor.Rc
open Go Go.RowKit
def RecC (S:List Nat) (w:World) (v:Value) (r:RecD):Prop:=∃ p1 c1 p2 c2 p3 c3,v=recV r p1 c1 p2 c2 p3 c3∧DF S w p1 r.n r.ds∧BF S w p2 r.vs∧BF S w p3 r.ss∧r.vs.length≤c2∧r.ss.length≤c3
theorem RecC.ext {S S':List Nat} {w w':World} {v:Value} {r:RecD} (h:RecC S w v r) (hb:Ext S w S' w'):RecC S' w' v r:=by
 obtain ⟨p1,c1,p2,c2,p3,c3,e,h1,h2,h3,h4,h5⟩:=h
 exact ⟨p1,c1,p2,c2,p3,c3,e,h1.ext hb,h2.ext hb,h3.ext hb,h4,h5⟩
theorem RecC.f {S:List Nat} {w:World} {v:Value} {r:RecD} (h:RecC S w v r):RecF S w v r:=by
 obtain ⟨p1,c1,p2,c2,p3,c3,e,h1,h2,h3,-,-⟩:=h
 exact ⟨p1,c1,p2,c2,p3,c3,e,h1,h2,h3⟩
def RecsC:=ThF RecC 7
theorem RecsC.ext {S S':List Nat} {w w':World} {p:Option Addr} {rs:List RecD} (h:RecsC S w p rs) (hb:Ext S w S' w'):RecsC S' w' p rs:=ThF.ext (fun _ _ h=>h.ext hb) h hb
theorem RecsC.f {S:List Nat} {w:World} {p:Option Addr} {rs:List RecD} (h:RecsC S w p rs):RecsF S w p rs:=fun hm=>by
 obtain ⟨g,o,e,hg,hS,hc⟩:=h hm
 refine ⟨g,o,e,hg,hS,fun i r hr=>?_⟩
 obtain ⟨v,hv,hj⟩:=hc i r hr
 exact ⟨v,hv.f,hj⟩
theorem RecsC.get {S:List Nat} {w:World} {p:Option Addr} {rs:List RecD} (h:RecsC S w p rs) {k:Nat} {r:RecD} (hk:rs[k]?=some r):∃ g o,p=some ⟨g,o,none⟩∧g<w.heap.size∧∃ p1 c1 p2 c2 p3 c3,(DF S w p1 r.n r.ds∧BF S w p2 r.vs∧BF S w p3 r.ss∧r.vs.length≤c2∧r.ss.length≤c3)∧w.cell? ⟨g,o+k*7,none⟩=some (.string r.k)∧w.cell? ⟨g,o+k*7+1,none⟩=some (.int .i64 r.cl)∧w.cell? ⟨g,o+k*7+2,none⟩=some (.int .i64 r.sq)∧w.cell? ⟨g,o+k*7+3,none⟩=some (.slice p1 r.n c1)∧w.cell? ⟨g,o+k*7+4,none⟩=some (.bool r.gone)∧w.cell? ⟨g,o+k*7+5,none⟩=some (.slice p2 r.vs.length c2)∧w.cell? ⟨g,o+k*7+6,none⟩=some (.slice p3 r.ss.length c3):=by
 obtain ⟨g,o,e,hg,-,hc⟩:=h (by have:=(List.getElem?_eq_some_iff.1 hk).1;omega)
 obtain ⟨v,⟨p1,c1,p2,c2,p3,c3,rfl,h1⟩,hj⟩:=hc k r hk
 exact ⟨g,o,e,hg,p1,c1,p2,c2,p3,c3,h1,hj 0 _ rfl,hj 1 _ rfl,hj 2 _ rfl,hj 3 _ rfl,hj 4 _ rfl,hj 5 _ rfl,hj 6 _ rfl⟩
def IxR (fg:RecD→Bool) (rs:List RecD) (v:Int):Prop:=(∃ (k:Nat) (r:RecD),v=(k:Int)∧rs[k]?=some r∧rs.find? fg=some r)∨(v = -1∧rs.find? fg=none)
theorem find_some:∀ {fg:RecD→Bool} {L:List RecD} {k:Nat} {x:RecD},L[k]?=some x→fg x=true→(∀ j y,j<k→L[j]?=some y→fg y=false)→L.find? fg=some x
 | _,[],_,_,h,_,_=>by simp at h
 | fg,y::L,0,x,h,e,_=>by
  obtain rfl:y=x:=by simpa using h
  exact List.find?_cons_of_pos e
 | fg,y::L,k+1,x,h,e,hn=>by
  have h0:=hn 0 y (by omega) (by simp)
  rw [List.find?_cons_of_neg (by simp [h0])]
  exact find_some (L:=L) (k:=k) (by simpa using h) e (fun j z hj hz=>hn (j+1) z (by omega) (by simpa using hz))
theorem find_none {fg:RecD→Bool} {L:List RecD} (h:∀ (j:Nat) (y:RecD),L[j]?=some y→fg y=false):L.find? fg=none:=by
 rw [List.find?_eq_none]
 intro x hx
 obtain ⟨j,hj⟩:=List.mem_iff_getElem?.1 hx
 simp [h j x hj]
set_option maxRecDepth 20000 in
set_option maxHeartbeats 4000000 in
theorem ixR_c (A:Value) (fg:RecD→Bool) (p:Option Addr) (n c:Nat) (rs:List RecD) (hn:n=rs.length) (hn2:n≤1000000) (w:World) (hR:RecsC [] w p rs)
  (hF:∀ (r:RecD),r∈rs→∀ w1,Below w.heap.size w w1→∀ p1 c1 p2 c2 p3 c3,DF [] w1 p1 r.n r.ds∧BF [] w1 p2 r.vs∧BF [] w1 p3 r.ss∧r.vs.length≤c2∧r.ss.length≤c3→Calls Tryz.prog 155 #[A,.agg #[.string r.k,.int .i64 r.cl,.int .i64 r.sq,.slice p1 r.n c1,.bool r.gone,.slice p2 r.vs.length c2,.slice p3 r.ss.length c3]] w1 (PostV (.bool (fg r)) w1)) :
  Calls Tryz.prog 239 #[.slice p n c,.func (.func 155) #[A] #[]] w fun e w'=>(∃ v:Int,e=.returned (.int .i64 v)∧IxR fg rs v)∧Below w.heap.size w w':=by
 replace hF:=Lib.hid hF
 replace hR:=Lib.hid hR
 replace hn:=Lib.hid hn
 go_enter Tryz.func239,Tryz.ntmps239
 go_wp2
 go_loopw [8] (fun i wr=>∃ k:Nat,k≤n∧i=.int .i64 k∧(∀ (j:Nat) (y:RecD),j<k→rs[j]?=some y→fg y=false)∧Below w.heap.size w wr) (fun i _=>(n-intOf i).toNat)
 case atStart=>exact ⟨0,by omega,rfl,fun j y h=>absurd h (by omega),Below.refl _ _⟩
 case round =>
  obtain ⟨k,hk,rfl,hno,hb⟩:=hrel
  by_cases he:k=n
  ·subst he
   have hnone:=Lib.hid (find_none (fg:=fg) (L:=rs) (fun j y hj=>hno j y (by have:=hn.out;have:=(List.getElem?_eq_some_iff.1 hj).1;omega) hj))
   clear hno hF
   go_wp2
   go_returns
   exact ⟨⟨-1,rfl,.inr ⟨rfl,hnone.out⟩⟩,hb⟩
  have hkl:k<rs.length:=by have:=hn.out;omega
  obtain ⟨x,hx⟩:∃ x,rs[k]?=some x:=⟨_,List.getElem?_eq_getElem hkl⟩
  obtain ⟨g,o,rfl,hg,p1,c1,p2,c2,p3,c3,hrec,y0,y1,y2,y3,y4,y5,y6⟩:=(hR.out.ext (.below hb)).get hx
  have j0:(0:Int)≤(k:Int):=by omega
  have j1:(k:Int)<(n:Int):=by omega
  have j2:k<n:=by omega
  have cF:=Lib.hid (hF.out x (List.mem_of_getElem? hx) wr hb p1 c1 p2 c2 p3 c3 hrec)
  replace hx:=Lib.hid hx
  have hno':=Lib.hid hno
  have hb':=Lib.hid hb
  clear he hk hno hrec
  go_wp2_with fail
  refine cF.out.mono ?_
  rintro e w2 ⟨rfl,hb2⟩
  have hb3:=Lib.hid (hb'.out.trans (hb2.mono hb'.out.size))
  clear hb hb2 y0 y1 y2 y3 y4 y5 y6 cF
  cases hcl:fg x with
  | true =>
   have hs:=Lib.hid (find_some hx.out hcl hno'.out)
   clear hcl
   go_wp2
   go_returns
   exact ⟨⟨(k:Int),rfl,.inl ⟨k,x,rfl,hx.out,hs.out⟩⟩,hb3.out⟩
  | false =>
   have hcl':=Lib.hid hcl
   clear hcl
   go_wp2
   exact ⟨⟨k+1,by omega,by simp,fun j y hj hy=>by
    by_cases e:j=k
    ·subst e
     rw [hx.out] at hy
     obtain rfl:x=y:=by injection hy
     exact hcl'.out
    exact hno'.out j y (by omega) hy,hb3.out⟩,by simp [intOf];omega⟩
set_option maxRecDepth 20000 in
set_option maxHeartbeats 4000000 in
theorem first_s (A:Value) (fg:RecD→Bool) (p:Option Addr) (n c:Nat) (rs:List RecD) (hn:n=rs.length) (r:RecD) (hr:rs.find? fg=some r) (w:World) (hR:RecsC [] w p rs)
  (hix:∀ w1,Below w.heap.size w w1→Calls Tryz.prog 239 #[.slice p n c,.func (.func 155) #[A] #[]] w1 fun e w'=>(∃ v:Int,e=.returned (.int .i64 v)∧IxR fg rs v)∧Below w1.heap.size w1 w') :
  Calls Tryz.prog 154 #[.func (.func 155) #[A] #[],.slice p n c] w fun e w'=>∃ p1 c1 p2 c2 p3 c3,e=.returned (.tuple #[.agg #[.string r.k,.int .i64 r.cl,.int .i64 r.sq,.slice p1 r.n c1,.bool r.gone,.slice p2 r.vs.length c2,.slice p3 r.ss.length c3],.bool true])∧(DF [] w' p1 r.n r.ds∧BF [] w' p2 r.vs∧BF [] w' p3 r.ss∧r.vs.length≤c2∧r.ss.length≤c3)∧Below w.heap.size w w':=by
 replace hix:=Lib.hid hix
 replace hR:=Lib.hid hR
 replace hn:=Lib.hid hn
 replace hr:=Lib.hid hr
 go_enter Tryz.func154,Tryz.ntmps154
 go_wp2_with fail
 refine calls_at (fun W hW=>?_)
 have hb0:Below w.heap.size w W:=by rw [hW];go_grown
 obtain ⟨gZ,hgZ⟩:∃ g,g=w.heap.size:=⟨_,rfl⟩
 have kZ:Blk W gZ 45 #[.string ⟨#[]⟩,.int .i64 0,.int .i64 0,.slice none 0 0,.bool false,.slice none 0 0,.slice none 0 0]:=by rw [hW,hgZ];exact Blk.new _ _ _
 have lZ:w.heap.size≤gZ:=by omega
 rw [← hgZ]
 clear hW hgZ
 refine (hix.out W hb0).mono ?_
 rintro e w2 ⟨⟨v,rfl,hv⟩,hb⟩
 rcases hv with ⟨k,x,rfl,hk,hf⟩ | ⟨rfl,hf⟩
 ·have ex:x=r:=by rw [hr.out] at hf;injection hf with hf;exact hf.symm
  subst ex
  replace kZ:=kZ.below hb
  replace hb0:=hb0.trans (hb.mono hb0.size)
  have hkl:=(List.getElem?_eq_some_iff.1 hk).1
  obtain ⟨g,o,rfl,hg,p1,c1,p2,c2,p3,c3,hrec,y0,y1,y2,y3,y4,y5,y6⟩:=hR.out.get hk
  replace y0:=(hb0.cell (p:=⟨g,_,none⟩) hg).trans y0
  replace y1:=(hb0.cell (p:=⟨g,_,none⟩) hg).trans y1
  replace y2:=(hb0.cell (p:=⟨g,_,none⟩) hg).trans y2
  replace y3:=(hb0.cell (p:=⟨g,_,none⟩) hg).trans y3
  replace y4:=(hb0.cell (p:=⟨g,_,none⟩) hg).trans y4
  replace y5:=(hb0.cell (p:=⟨g,_,none⟩) hg).trans y5
  replace y6:=(hb0.cell (p:=⟨g,_,none⟩) hg).trans y6
  replace hg:=Nat.lt_of_lt_of_le hg hb0.size
  have j0:(0:Int)≤(k:Int):=by omega
  have j1:(k:Int)<(n:Int):=by have:=hn.out;omega
  obtain ⟨z0,z1,z2,z3,z4,z5,z6⟩:=blk7 kZ
  have f0:=kZ.frozen 0
  have f1:=kZ.frozen 1
  have f2:=kZ.frozen 2
  have f3:=kZ.frozen 3
  have f4:=kZ.frozen 4
  have f5:=kZ.frozen 5
  have f6:=kZ.frozen 6
  have lZ2:=kZ.lt
  have hs:=hb0.size
  have hS7:=Lib.hid (setSeven w2 gZ (.string x.k) (.int .i64 x.cl) (.int .i64 x.sq) (.slice p1 x.n c1) (.bool x.gone) (.slice p2 x.vs.length c2) (.slice p3 x.ss.length c3) kZ)
  obtain ⟨k1,k2,k3,k4,k5⟩:=hrec
  replace k1:=Lib.hid k1
  replace k2:=Lib.hid k2
  replace k3:=Lib.hid k3
  replace k4:=Lib.hid k4
  replace k5:=Lib.hid k5
  replace hb0:=Lib.hid hb0
  have kZ':=Lib.hid kZ
  clear hb hk hkl hf hix kZ hr
  go_wp2_with fail
  obtain ⟨kF,hgF⟩:=hS7.out
  generalize (((((((w2.setCell ⟨gZ,0,none⟩ (.string x.k)).setCell ⟨gZ,1,none⟩ (.int .i64 x.cl)).setCell ⟨gZ,2,none⟩ (.int .i64 x.sq)).setCell ⟨gZ,3,none⟩ (.slice p1 x.n c1)).setCell ⟨gZ,4,none⟩ (.bool x.gone)).setCell ⟨gZ,5,none⟩ (.slice p2 x.vs.length c2)).setCell ⟨gZ,6,none⟩ (.slice p3 x.ss.length c3))=w13 at *
  obtain ⟨u0,u1,u2,u3,u4,u5,u6⟩:=blk7 kF
  have hbf:Below w.heap.size w w13:=hb0.out.grown hgF hs (fun k hk=>by have:gZ=k:=Option.some.inj hk;omega)
  exact bodyPost_ret (v:=.tuple #[.agg #[.string x.k,.int .i64 x.cl,.int .i64 x.sq,.slice p1 x.n c1,.bool x.gone,.slice p2 x.vs.length c2,.slice p3 x.ss.length c3],.bool true]) (by simp [results,Tryz.results154,go_sem,u0,u1,u2,u3,u4,u5,u6]) rfl ⟨p1,c1,p2,c2,p3,c3,rfl,⟨k1.out.ext (.below hbf),k2.out.ext (.below hbf),k3.out.ext (.below hbf),k4.out,k5.out⟩,hbf⟩
 rw [hr.out] at hf
 cases hf
def rec0:RecD:=⟨⟨#[]⟩,0,0,0,[],false,[],[]⟩
set_option maxRecDepth 20000 in
set_option maxHeartbeats 4000000 in
theorem first_n (A:Value) (fg:RecD→Bool) (p:Option Addr) (n c:Nat) (rs:List RecD) (hr:rs.find? fg=none) (w:World)
  (hix:∀ w1,Below w.heap.size w w1→Calls Tryz.prog 239 #[.slice p n c,.func (.func 155) #[A] #[]] w1 fun e w'=>(∃ v:Int,e=.returned (.int .i64 v)∧IxR fg rs v)∧Below w1.heap.size w1 w') :
  Calls Tryz.prog 154 #[.func (.func 155) #[A] #[],.slice p n c] w (PostV (.tuple #[.agg #[.string ⟨#[]⟩,.int .i64 0,.int .i64 0,.slice none 0 0,.bool false,.slice none 0 0,.slice none 0 0],.bool false]) w):=by
 replace hix:=Lib.hid hix
 replace hr:=Lib.hid hr
 go_enter Tryz.func154,Tryz.ntmps154
 go_wp2_with fail
 refine calls_at (fun W hW=>?_)
 have hb0:Below w.heap.size w W:=by rw [hW];go_grown
 obtain ⟨gZ,hgZ⟩:∃ g,g=w.heap.size:=⟨_,rfl⟩
 have kZ:Blk W gZ 45 #[.string ⟨#[]⟩,.int .i64 0,.int .i64 0,.slice none 0 0,.bool false,.slice none 0 0,.slice none 0 0]:=by rw [hW,hgZ];exact Blk.new _ _ _
 have lZ:w.heap.size≤gZ:=by omega
 rw [← hgZ]
 clear hW hgZ
 refine (hix.out W hb0).mono ?_
 rintro e w2 ⟨⟨v,rfl,hv⟩,hb⟩
 rcases hv with ⟨k,x,rfl,hk,hf⟩ | ⟨rfl,hf⟩
 ·rw [hr.out] at hf
  cases hf
 replace kZ:=kZ.below hb
 replace hb0:=hb0.trans (hb.mono hb0.size)
 clear hb hf hix hr
 go_upto_region 5 with fail
 refine at_world (fun W2 hW=>?_)
 have hb:Below w2.heap.size w2 W2:=by rw [hW];go_grown
 have kY:Blk W2 w2.heap.size 45 #[.string ⟨#[]⟩,.int .i64 0,.int .i64 0,.slice none 0 0,.bool false,.slice none 0 0,.slice none 0 0]:=by rw [hW];exact Blk.new _ _ _
 replace kZ:=kZ.below hb
 replace hb0:=hb0.trans (hb.mono hb0.size)
 clear hb hW
 obtain ⟨y0,y1,y2,y3,y4,y5,y6⟩:=blk7 kY
 obtain ⟨z0,z1,z2,z3,z4,z5,z6⟩:=blk7 kZ
 have f0:=kZ.frozen 0
 have f1:=kZ.frozen 1
 have f2:=kZ.frozen 2
 have f3:=kZ.frozen 3
 have f4:=kZ.frozen 4
 have f5:=kZ.frozen 5
 have f6:=kZ.frozen 6
 have lZ2:=kZ.lt
 have hs:=hb0.size
 have hS7:=Lib.hid (setSeven W2 gZ (.string ⟨#[]⟩) (.int .i64 0) (.int .i64 0) (.slice none 0 0) (.bool false) (.slice none 0 0) (.slice none 0 0) kZ)
 replace hb0:=Lib.hid hb0
 clear kZ kY
 go_wp2_with fail
 obtain ⟨kF,hgF⟩:=hS7.out
 generalize (((((((W2.setCell ⟨gZ,0,none⟩ (.string ⟨#[]⟩)).setCell ⟨gZ,1,none⟩ (.int .i64 0)).setCell ⟨gZ,2,none⟩ (.int .i64 0)).setCell ⟨gZ,3,none⟩ (.slice none 0 0)).setCell ⟨gZ,4,none⟩ (.bool false)).setCell ⟨gZ,5,none⟩ (.slice none 0 0)).setCell ⟨gZ,6,none⟩ (.slice none 0 0))=w13 at *
 obtain ⟨u0,u1,u2,u3,u4,u5,u6⟩:=blk7 kF
 have hbf:Below w.heap.size w w13:=hb0.out.grown hgF hs (fun k hk=>by have:gZ=k:=Option.some.inj hk;omega)
 exact bodyPost_ret (v:=.tuple #[.agg #[.string ⟨#[]⟩,.int .i64 0,.int .i64 0,.slice none 0 0,.bool false,.slice none 0 0,.slice none 0 0],.bool false]) (by simp [results,Tryz.results154,go_sem,u0,u1,u2,u3,u4,u5,u6]) rfl ⟨rfl,hbf⟩
end Go.Proofs.YtnopjabcdloepaaGreatDoor.Rc

namespace Go.Proofs.YtnopjabcdloepaaGreatDoor.Rc
open Go Go.RowKit
def foReL (n:Nat) (ds vs ss:List Int) (p1:Option Addr) (c1:Nat) (p2:Option Addr) (c2:Nat) (p3:Option Addr) (c3:Nat) (gX B0:Nat):List (Value→World→Prop):=[
 Eq1 (.pointer (some ⟨gX,3,none⟩)),
 Eq1 (.slice p1 n c1),
 OwS B0 175 2 (n) (dotL ds),
 Eq1 (.pointer (some ⟨gX,5,none⟩)),
 Eq1 (.slice p2 vs.length c2),
 OwS B0 5 1 (vs.length) (bL vs),
 Eq1 (.pointer (some ⟨gX,6,none⟩)),
 Eq1 (.slice p3 ss.length c3),
 OwS B0 5 1 (ss.length) (bL ss),
 Eq1 (.pointer (some ⟨gX,3,none⟩))]
theorem foReS (n:Nat) (ds vs ss:List Int) (p1:Option Addr) (c1:Nat) (p2:Option Addr) (c2:Nat) (p3:Option Addr) (c3:Nat) (gX B0:Nat):∀ j x' q q',(foReL n ds vs ss p1 c1 p2 c2 p3 c3 gX B0).getD j (fun _ _=>True) x' q→Below q.heap.size q q'→(foReL n ds vs ss p1 c1 p2 c2 p3 c3 gX B0).getD j (fun _ _=>True) x' q':=by
 refine sta_all _ ?_
 simp only [foReL,List.mem_cons,forall_eq_or_imp,List.not_mem_nil,false_implies,implies_true,and_true]
 exact ⟨sta_eq _,sta_eq _,sta_ows _ _ _ _ _,sta_eq _,sta_eq _,sta_ows _ _ _ _ _,sta_eq _,sta_eq _,sta_ows _ _ _ _ _,sta_eq _⟩
theorem foReO (n:Nat) (ds vs ss:List Int) (p1:Option Addr) (c1:Nat) (p2:Option Addr) (c2:Nat) (p3:Option Addr) (c3:Nat) (gX B0:Nat):∀ j x' q,(fun j=>j==2||j==5||j==8) j=true→(foReL n ds vs ss p1 c1 p2 c2 p3 c3 gX B0).getD j (fun _ _=>True) x' q→∀ g,obk x'=some g→g<q.heap.size:=by
 intro j x' q hj hv g e
 have hj':j=2∨j=5∨j=8:=by simpa [or_assoc] using hj
 rcases hj' with rfl | rfl | rfl
 ·exact ows_obk hv e
 ·exact ows_obk hv e
 exact ows_obk hv e
def PostFo (r:RecD) (is:Bool) (w:World) (e:Ending) (w':World):Prop:=∃ q1 d1 q2 d2 q3 d3,e=.returned (.tuple #[.agg #[.string r.k,.int .i64 r.cl,.int .i64 r.sq,.slice q1 r.n d1,.bool r.gone,.slice q2 r.vs.length d2,.slice q3 r.ss.length d3],.bool is])∧w'.ownsRow w.heap.size 175 2 (.slice q1 r.n d1) r.n (dotL r.ds)∧w'.ownsRow w.heap.size 5 1 (.slice q2 r.vs.length d2) r.vs.length (bL r.vs)∧w'.ownsRow w.heap.size 5 1 (.slice q3 r.ss.length d3) r.ss.length (bL r.ss)∧Below w.heap.size w w'
set_option maxRecDepth 20000 in
set_option maxHeartbeats 8000000 in
theorem Forged_x (gb:Nat) (pg:Option Addr) (ng cg:Nat) (p:Option Addr) (m c:Nat) (r:RecD) (hok:r.ok) (is:Bool) (w:World)
  (hrt:∀ w1,Below w.heap.size w w1→Calls Tryz.prog 39 #[.slice pg ng cg] w1 (PostV (.bool true) w1))
  (hfi:∀ w1,Below w.heap.size w w1→Calls Tryz.prog 154 #[.func (.func 155) #[.agg #[.pointer (some ⟨gb,0,none⟩),.slice pg ng cg,.slice none 0 0,.slice none 0 0]] #[],.slice p m c] w1 fun e w'=>∃ p1 c1 p2 c2 p3 c3,e=.returned (.tuple #[.agg #[.string r.k,.int .i64 r.cl,.int .i64 r.sq,.slice p1 r.n c1,.bool r.gone,.slice p2 r.vs.length c2,.slice p3 r.ss.length c3],.bool is])∧(DotsL w' p1 r.n r.ds∧BytesL w' p2 r.vs∧BytesL w' p3 r.ss)∧Below w1.heap.size w1 w') :
  Calls Tryz.prog 73 #[.slice pg ng cg,.pointer (some ⟨gb,0,none⟩),.slice p m c] w (PostFo r is w):=by
 have hmf:∀ (fn:Fn) (first cap:Array Value) (w:World),(Instr.makeFunc fn first cap).run Tryz.prog w=.ok (.func fn first cap) w:=fun _ _ _ _=>rfl
 obtain ⟨k,cl,sq,n,ds,gone,vs,ss⟩:=r
 obtain ⟨hn,hv,hs,-,-⟩:=hok
 unfold PostFo
 dsimp only at *
 replace hrt:=Lib.hid hrt
 replace hfi:=Lib.hid hfi
 go_enter Tryz.func73,Tryz.ntmps73
 go_wp2_with fail
 refine calls_at (fun W hW=>?_)
 have hb0:Below w.heap.size w W:=by rw [hW];go_grown
 obtain ⟨gZ,hgZ⟩:∃ g,g=w.heap.size:=⟨_,rfl⟩
 have kZ:Blk W gZ 45 #[.string ⟨#[]⟩,.int .i64 0,.int .i64 0,.slice none 0 0,.bool false,.slice none 0 0,.slice none 0 0]:=by rw [hW,hgZ];exact Blk.new _ _ _
 have lZ:w.heap.size≤gZ:=by omega
 rw [← hgZ]
 clear hW hgZ
 refine (hrt.out W hb0).mono ?_
 rintro e w2 ⟨rfl,hb⟩
 replace kZ:=kZ.below hb
 replace hb0:=hb0.trans (hb.mono hb0.size)
 clear hb hrt
 go_wp2_with fail
 refine (hfi.out w2 hb0).mono ?_
 rintro e w3 ⟨p1,c1,p2,c2,p3,c3,rfl,⟨k1,k2,k3⟩,hb⟩
 replace kZ:=kZ.below hb
 replace hb0:=hb0.trans (hb.mono hb0.size)
 clear hb hfi
 go_upto_region 4 with fail
 refine at_world (fun W0 hW=>?_)
 have hb:Below w3.heap.size w3 W0:=by rw [hW];go_grown
 obtain ⟨gX,hgX⟩:∃ g,g=w3.heap.size:=⟨_,rfl⟩
 have kX:Blk W0 gX 45 #[.string k,.int .i64 cl,.int .i64 sq,.slice p1 n c1,.bool gone,.slice p2 vs.length c2,.slice p3 ss.length c3]:=by rw [hW,hgX];exact Blk.new _ _ _
 have nZX:gZ≠gX:=by have:=kZ.lt;omega
 have lX:w.heap.size≤gX:=by have:=hb0.size;omega
 rw [← hgX]
 clear hW hgX
 replace kZ:=kZ.below hb
 replace k1:=k1.below hb
 replace k2:=k2.below hb
 replace k3:=k3.below hb
 replace hb0:=hb0.trans (hb.mono hb0.size)
 clear hb
 have hc1:=Lib.hid (fun w1 (hb:Below W0.heap.size W0 w1)=>cloneD_c p1 n c1 ds (by omega) w1 (k1.below hb))
 have hc2:=Lib.hid (fun w1 (hb:Below W0.heap.size W0 w1)=>cloneB_c p2 vs.length c2 vs rfl (by omega) w1 (k2.below hb))
 have hc3:=Lib.hid (fun w1 (hb:Below W0.heap.size W0 w1)=>cloneB_c p3 ss.length c3 ss rfl (by omega) w1 (k3.below hb))
 have lXW:=kX.lt
 have lZW:=kZ.lt
 have hs4:=hb0.size
 clear k1 k2 k3 hn hv hs
 refine wp_region_grow5 10 (fun k=>(Nat.ble 23 k&&Nat.ble k 32)) _ [] (fun a b=>Below a.heap.size a b) (Below.refl _ _).drew below_tr (fun j x' q=>(foReL n ds vs ss p1 c1 p2 c2 p3 c3 gX W0.heap.size).getD j (fun _ _=>True) x' q) (fun j=>j==2||j==5||j==8) (fun f=>#[.slice pg ng cg,.pointer (some ⟨gb,0,none⟩),.slice p m c,undef,undef,undef,.pointer (some ⟨gZ,0,none⟩),.bool false,.pointer (some ⟨gX,0,none⟩),.bool is,_,_,_,_,_,_,_,_,_,_,_,_,_,f 23,f 24,f 25,f 26,f 27,f 28,f 29,f 30,f 31,f 32,undef,undef,undef,undef]) (fun f=>rfl) (by kernel_rfl) (by kernel_rfl) (by kernel_rfl) (by kernel_rfl) (by kernel_rfl) (foReS _ _ _ _ _ _ _ _ _ _ _ _) (foReO _ _ _ _ _ _ _ _ _ _ _ _) ?_ ?_
 ·refine steps5_cons ?_ ?_
  ·intro f w1 hb hd Q hK
   clear hd
   have hK:=Lib.hid hK
   go_wp2
   exact hK.out _ _ rfl (.refl _ _) nof
  refine steps5_cons ?_ ?_
  ·intro f w1 hb hd Q hK
   have e23:f 23=.pointer (some ⟨gX,3,none⟩):=hd.1 rfl
   clear hd
   simp only [e23] at hK
   have hK:=Lib.hid hK
   have c0:=(kX.below hb).cell 3
   simp only [List.getElem?_toArray,List.getElem?_cons_zero,List.getElem?_cons_succ] at c0
   go_wp2
   exact hK.out _ _ rfl (.refl _ _) nof
  refine steps5_cons ?_ ?_
  ·intro f w1 hb hd Q hK
   have e24:f 24=.slice p1 n c1:=hd.1 rfl
   clear hd
   simp only [e24] at hK
   have hK:=Lib.hid hK
   go_wp2_with fail
   refine (hc1.out _ hb).mono ?_
   rintro e w2 ⟨p,c,rfl,ho,hb2⟩
   replace ho:=Lib.hid ho
   go_wp2
   exact hK.out _ _ ⟨_,_,rfl,own_mono ho.out hb.size⟩ hb2 (fun _ g e=>own_ge ho.out e)
  refine steps5_cons ?_ ?_
  ·intro f w1 hb hd Q hK
   clear hd
   have hK:=Lib.hid hK
   go_wp2
   exact hK.out _ _ rfl (.refl _ _) nof
  refine steps5_cons ?_ ?_
  ·intro f w1 hb hd Q hK
   have e26:f 26=.pointer (some ⟨gX,5,none⟩):=hd.1 rfl
   clear hd
   simp only [e26] at hK
   have hK:=Lib.hid hK
   have c0:=(kX.below hb).cell 5
   simp only [List.getElem?_toArray,List.getElem?_cons_zero,List.getElem?_cons_succ] at c0
   go_wp2
   exact hK.out _ _ rfl (.refl _ _) nof
  refine steps5_cons ?_ ?_
  ·intro f w1 hb hd Q hK
   have e27:f 27=.slice p2 vs.length c2:=hd.1 rfl
   clear hd
   simp only [e27] at hK
   have hK:=Lib.hid hK
   go_wp2_with fail
   refine (hc2.out _ hb).mono ?_
   rintro e w2 ⟨p,c,rfl,ho,hb2⟩
   replace ho:=Lib.hid ho
   go_wp2
   exact hK.out _ _ ⟨_,_,rfl,own_mono ho.out hb.size⟩ hb2 (fun _ g e=>own_ge ho.out e)
  refine steps5_cons ?_ ?_
  ·intro f w1 hb hd Q hK
   clear hd
   have hK:=Lib.hid hK
   go_wp2
   exact hK.out _ _ rfl (.refl _ _) nof
  refine steps5_cons ?_ ?_
  ·intro f w1 hb hd Q hK
   have e29:f 29=.pointer (some ⟨gX,6,none⟩):=hd.1 rfl
   clear hd
   simp only [e29] at hK
   have hK:=Lib.hid hK
   have c0:=(kX.below hb).cell 6
   simp only [List.getElem?_toArray,List.getElem?_cons_zero,List.getElem?_cons_succ] at c0
   go_wp2
   exact hK.out _ _ rfl (.refl _ _) nof
  refine steps5_cons ?_ ?_
  ·intro f w1 hb hd Q hK
   have e30:f 30=.slice p3 ss.length c3:=hd.1 rfl
   clear hd
   simp only [e30] at hK
   have hK:=Lib.hid hK
   go_wp2_with fail
   refine (hc3.out _ hb).mono ?_
   rintro e w2 ⟨p,c,rfl,ho,hb2⟩
   replace ho:=Lib.hid ho
   go_wp2
   exact hK.out _ _ ⟨_,_,rfl,own_mono ho.out hb.size⟩ hb2 (fun _ g e=>own_ge ho.out e)
  refine steps5_cons ?_ ?_
  ·intro f w1 hb hd Q hK
   clear hd
   have hK:=Lib.hid hK
   go_wp2
   exact hK.out _ _ rfl (.refl _ _) nof
  trivial
 intro f w1 hb hf hne
 clear hc1 hc2 hc3
 obtain ⟨q0,d0,e0,o0⟩:OwS W0.heap.size 175 2 (n) (dotL ds) (f 25) w1:=hf 2 _ _ (by decide) rfl rfl
 obtain ⟨q1,d1,e1,o1⟩:OwS W0.heap.size 5 1 (vs.length) (bL vs) (f 28) w1:=hf 5 _ _ (by decide) rfl rfl
 obtain ⟨q2,d2,e2,o2⟩:OwS W0.heap.size 5 1 (ss.length) (bL ss) (f 31) w1:=hf 8 _ _ (by decide) rfl rfl
 simp only [e0,e1,e2]
 have hfa:f 32=.pointer (some ⟨gX,3,none⟩):=hf 9 _ _ (by decide) rfl rfl
 simp only [hfa]
 clear hf hne
 replace kX:=kX.below hb
 replace kZ:=kZ.below hb
 have hs1:=hb.size
 replace hb0:=hb0.trans (hb.mono hb0.size)
 have hs5:=hb0.size
 clear hb
 have hne1:(some gZ:Option Nat)≠some gX:=fun h=>nZX (Option.some.inj h)
 have s0:=grown_setCells gX [.slice q0 n d0] 3 w1
 have s1:=grown_setCells gX [.slice q1 vs.length d1] 5 (w1.setCells gX 3 [.slice q0 n d0])
 have s2:=grown_setCells gX [.slice q2 ss.length d2] 6 ((w1.setCells gX 3 [.slice q0 n d0]).setCells gX 5 [.slice q1 vs.length d1])
 have hR3:=(((kZ.grown s0 hne1).grown s1 hne1).grown s2 hne1)
 have hX3:Blk (((w1.setCells gX 3 [.slice q0 n d0]).setCells gX 5 [.slice q1 vs.length d1]).setCells gX 6 [.slice q2 ss.length d2]) gX 45 #[.string k,.int .i64 cl,.int .i64 sq,.slice q0 n d0,.bool gone,.slice q1 vs.length d1,.slice q2 ss.length d2]:=((kX.set_ 3 (.slice q0 n d0)).set_ 5 (.slice q1 vs.length d1)).set_ 6 (.slice q2 ss.length d2)
 replace o0:=own_grown (own_grown (own_grown (o0) s0 (fun g h=>by injection h;omega)) s1 (fun g h=>by injection h;omega)) s2 (fun g h=>by injection h;omega)
 replace o1:=own_grown (own_grown (own_grown (o1) s0 (fun g h=>by injection h;omega)) s1 (fun g h=>by injection h;omega)) s2 (fun g h=>by injection h;omega)
 replace o2:=own_grown (own_grown (own_grown (o2) s0 (fun g h=>by injection h;omega)) s1 (fun g h=>by injection h;omega)) s2 (fun g h=>by injection h;omega)
 have hb5:=(((hb0.grown s0 hs5 (fun g h=>by injection h;omega)).grown s1 (by simp only [World.setCells,size_setCell];omega) (fun g h=>by injection h;omega)).grown s2 (by simp only [World.setCells,size_setCell];omega) (fun g h=>by injection h;omega))
 have y3:w1.cell? ⟨gX,3,none⟩=some (.slice p1 n c1):=kX.cell 3
 have y5:w1.cell? ⟨gX,5,none⟩=some (.slice p2 vs.length c2):=kX.cell 5
 have y6:w1.cell? ⟨gX,6,none⟩=some (.slice p3 ss.length c3):=kX.cell 6
 have f3:=kX.frozen 3
 have f5:=kX.frozen 5
 have f6:=kX.frozen 6
 have lX5:=kX.lt
 replace o0:=Lib.hid o0
 replace o1:=Lib.hid o1
 replace o2:=Lib.hid o2
 replace hb5:=Lib.hid hb5
 replace hR3:=Lib.hid hR3
 replace hX3:=Lib.hid hX3
 clear s0 s1 s2 kX kZ hb0 hne1
 go_upto_region 5 with fail
 refine at_world (fun w8 hW=>?_)
 have hX8:=hX3.out
 have hR8:=hR3.out
 have o08:=o0.out
 have o18:=o1.out
 have o28:=o2.out
 have hb8:=hb5.out
 have hW':((w1.setCells gX 3 [.slice q0 n d0]).setCells gX 5 [.slice q1 vs.length d1]).setCells gX 6 [.slice q2 ss.length d2]=w8:=hW.symm
 rw [hW'] at hX8 hR8 o08 o18 o28 hb8
 clear hW hW' hX3 hR3 o0 o1 o2 hb5 y3 y5 y6 f3 f5 f6 lX5
 obtain ⟨y0,y1,y2,y3,y4,y5,y6⟩:=blk7 hX8
 obtain ⟨z0,z1,z2,z3,z4,z5,z6⟩:=blk7 hR8
 have f0:=hR8.frozen 0
 have f1:=hR8.frozen 1
 have f2:=hR8.frozen 2
 have f3:=hR8.frozen 3
 have f4:=hR8.frozen 4
 have f5:=hR8.frozen 5
 have f6:=hR8.frozen 6
 have lR8:=hR8.lt
 have lX8:=hX8.lt
 have hs8:=hb8.size
 have hS7:=Lib.hid (setSeven w8 gZ (.string k) (.int .i64 cl) (.int .i64 sq) (.slice q0 n d0) (.bool gone) (.slice q1 vs.length d1) (.slice q2 ss.length d2) hR8)
 replace hb8:=Lib.hid hb8
 replace o08:=Lib.hid o08
 replace o18:=Lib.hid o18
 replace o28:=Lib.hid o28
 clear hX8 hR8
 go_wp2_with fail
 obtain ⟨kF,hgF⟩:=hS7.out
 generalize (((((((w8.setCell ⟨gZ,0,none⟩ (.string k)).setCell ⟨gZ,1,none⟩ (.int .i64 cl)).setCell ⟨gZ,2,none⟩ (.int .i64 sq)).setCell ⟨gZ,3,none⟩ (.slice q0 n d0)).setCell ⟨gZ,4,none⟩ (.bool gone)).setCell ⟨gZ,5,none⟩ (.slice q1 vs.length d1)).setCell ⟨gZ,6,none⟩ (.slice q2 ss.length d2))=w13 at *
 obtain ⟨u0,u1,u2,u3,u4,u5,u6⟩:=blk7 kF
 have hbf:Below w.heap.size w w13:=hb8.out.grown hgF hs8 (fun k hk=>by have:gZ=k:=Option.some.inj hk;omega)
 exact bodyPost_ret (v:=.tuple #[.agg #[.string k,.int .i64 cl,.int .i64 sq,.slice q0 n d0,.bool gone,.slice q1 vs.length d1,.slice q2 ss.length d2],.bool is]) (by simp [results,Tryz.results73,go_sem,u0,u1,u2,u3,u4,u5,u6]) rfl ⟨q0,d0,q1,d1,q2,d2,rfl,own_mono (own_grown o08.out hgF (fun g h=>by injection h;omega)) hs4,own_mono (own_grown o18.out hgF (fun g h=>by injection h;omega)) hs4,own_mono (own_grown o28.out hgF (fun g h=>by injection h;omega)) hs4,hbf⟩
end Go.Proofs.YtnopjabcdloepaaGreatDoor.Rc
