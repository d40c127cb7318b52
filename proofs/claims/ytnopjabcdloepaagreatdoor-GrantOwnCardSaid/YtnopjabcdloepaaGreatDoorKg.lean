import Derived.Test.YtnopjabcdloepaaGreatDoorKd
import Derived.Test.YtnopjabcdloepaaGreatDoorKr
import Derived.Test.YtnopjabcdloepaaGreatDoorCv
import Derived.Test.YtnopjabcdloepaaGreatDoorKe
import Derived.Deep.RegionHeld3
namespace Go.Proofs.YtnopjabcdloepaaGreatDoor.Rc
open Go.RowKit
def rwReL (n:Nat) (ds vs ss:List Int) (p1:Option Addr) (c1:Nat) (p2:Option Addr) (c2:Nat) (p3:Option Addr) (c3:Nat) (H B0:Nat):List (Value→World→Prop):=[
 Eq1 (.pointer (some ⟨H,3,none⟩)),
 Eq1 (.slice p1 n c1),
 OwS B0 175 2 (n) (dotL ds),
 Eq1 (.pointer (some ⟨H,5,none⟩)),
 Eq1 (.slice p2 vs.length c2),
 OwS B0 5 1 (vs.length) (bL vs),
 Eq1 (.pointer (some ⟨H,6,none⟩)),
 Eq1 (.slice p3 ss.length c3),
 OwS B0 5 1 (ss.length) (bL ss),
 Eq1 (.pointer (some ⟨H,3,none⟩))]
theorem rwReS (n:Nat) (ds vs ss:List Int) (p1:Option Addr) (c1:Nat) (p2:Option Addr) (c2:Nat) (p3:Option Addr) (c3:Nat) (H B0:Nat):∀ j x' q q',(rwReL n ds vs ss p1 c1 p2 c2 p3 c3 H B0).getD j (fun _ _=>True) x' q→Below q.heap.size q q'→(rwReL n ds vs ss p1 c1 p2 c2 p3 c3 H B0).getD j (fun _ _=>True) x' q':=by
 refine sta_all _ ?_
 simp only [rwReL,List.mem_cons,forall_eq_or_imp,List.not_mem_nil,false_implies,implies_true,and_true]
 exact ⟨sta_eq _,sta_eq _,sta_ows _ _ _ _ _,sta_eq _,sta_eq _,sta_ows _ _ _ _ _,sta_eq _,sta_eq _,sta_ows _ _ _ _ _,sta_eq _⟩
theorem rwReO (n:Nat) (ds vs ss:List Int) (p1:Option Addr) (c1:Nat) (p2:Option Addr) (c2:Nat) (p3:Option Addr) (c3:Nat) (H B0:Nat):∀ j x' q,(fun j=>j==2||j==5||j==8) j=true→(rwReL n ds vs ss p1 c1 p2 c2 p3 c3 H B0).getD j (fun _ _=>True) x' q→∀ g,obk x'=some g→g<q.heap.size:=by
 intro j x' q hj hv g e
 have hj':j=2∨j=5∨j=8:=by simpa [or_assoc] using hj
 rcases hj' with rfl | rfl | rfl
 ·exact ows_obk hv e
 ·exact ows_obk hv e
 exact ows_obk hv e
set_option maxRecDepth 20000 in
set_option maxHeartbeats 8000000 in
theorem recOwn_c (r:RecD) (p1:Option Addr) (c1:Nat) (p2:Option Addr) (c2:Nat) (p3:Option Addr) (c3:Nat) (hok:r.ok) (w:World) (h1:DotsL w p1 r.n r.ds) (h2:BytesL w p2 r.vs) (h3:BytesL w p3 r.ss) :
  Calls Tryz.prog 113 #[recV r p1 c1 p2 c2 p3 c3] w (PostRO r w):=by
 obtain ⟨k,cl,sq,n,ds,gone,vs,ss⟩:=r
 obtain ⟨hn,hv,hs,-,-⟩:=hok
 dsimp only at h1 h2 h3 hn hv hs
 unfold recV
 dsimp only
 go_enter Tryz.func113,Tryz.ntmps113
 go_wp2
 refine at_world (fun W0 hW=>?_)
 have hG:Blk W0 w.heap.size 45 #[.string k,.int .i64 cl,.int .i64 sq,.slice p1 n c1,.bool gone,.slice p2 vs.length c2,.slice p3 ss.length c3]:=by rw [hW];exact (Blk.new _ _ _).alloc _
 have hR:Blk W0 (w.heap.size+1) 45 #[.string ⟨#[]⟩,.int .i64 0,.int .i64 0,.slice none 0 0,.bool false,.slice none 0 0,.slice none 0 0]:=by rw [hW];exact blk_at (by simp) (Blk.new _ _ _)
 have hbw:Below w.heap.size w W0:=by rw [hW];go_grown
 have hws:w.heap.size+2=W0.heap.size:=by rw [hW];simp
 clear hW
 have hc1:=fun w1 (hb:Below W0.heap.size W0 w1)=>cloneD_c p1 n c1 ds (by omega) w1 ((h1.below hbw).below hb)
 have hc2:=fun w1 (hb:Below W0.heap.size W0 w1)=>cloneB_c p2 vs.length c2 vs rfl (by omega) w1 ((h2.below hbw).below hb)
 have hc3:=fun w1 (hb:Below W0.heap.size W0 w1)=>cloneB_c p3 ss.length c3 ss rfl (by omega) w1 ((h3.below hbw).below hb)
 replace hc1:=Lib.hid hc1
 replace hc2:=Lib.hid hc2
 replace hc3:=Lib.hid hc3
 clear h1 h2 h3 hn hv hs
 refine wp_region_grow5 10 (fun k=>(Nat.ble 3 k&&Nat.ble k 12)) _ [] (fun a b=>Below a.heap.size a b) (Below.refl _ _).drew below_tr (fun j x' q=>(rwReL n ds vs ss p1 c1 p2 c2 p3 c3 w.heap.size W0.heap.size).getD j (fun _ _=>True) x' q) (fun j=>j==2||j==5||j==8) (fun f=>#[.agg #[.string k,.int .i64 cl,.int .i64 sq,.slice p1 n c1,.bool gone,.slice p2 vs.length c2,.slice p3 ss.length c3],.pointer (some ⟨w.heap.size,0,none⟩),.pointer (some ⟨(w.heap.size+1),0,none⟩),f 3,f 4,f 5,f 6,f 7,f 8,f 9,f 10,f 11,f 12,undef,undef,undef]) (fun f=>rfl) (by kernel_rfl) (by kernel_rfl) (by kernel_rfl) (by kernel_rfl) (by kernel_rfl) (rwReS _ _ _ _ _ _ _ _ _ _ _ _) (rwReO _ _ _ _ _ _ _ _ _ _ _ _) ?_ ?_
 ·refine steps5_cons ?_ ?_
  ·intro f w1 hb hd Q hK
   clear hd
   have hK:=Lib.hid hK
   go_wp2
   exact hK.out _ _ rfl (.refl _ _) nof
  refine steps5_cons ?_ ?_
  ·intro f w1 hb hd Q hK
   have e3:f 3=.pointer (some ⟨w.heap.size,3,none⟩):=hd.1 rfl
   clear hd
   simp only [e3] at hK
   have hK:=Lib.hid hK
   have c0:=(hG.below hb).cell 3
   simp only [List.getElem?_toArray,List.getElem?_cons_zero,List.getElem?_cons_succ] at c0
   go_wp2
   exact hK.out _ _ rfl (.refl _ _) nof
  refine steps5_cons ?_ ?_
  ·intro f w1 hb hd Q hK
   have e4:f 4=.slice p1 n c1:=hd.1 rfl
   clear hd
   simp only [e4] at hK
   have hK:=Lib.hid hK
   go_wp2_with fail
   refine (hc1.out _ hb).mono ?_
   rintro e w2 ⟨p,c,rfl,ho,hb2⟩
   replace ho:=Lib.hid ho
   go_wp2
   exact hK.out _ _ ⟨_,_,rfl,own_mono ho.out hb.size⟩ hb2 (fun _ g e=>own_ge ho.out e)
  refine steps5_cons ?_ ?_
  ·intro f w1 hb hd Q hK
   clear hd
   have hK:=Lib.hid hK
   go_wp2
   exact hK.out _ _ rfl (.refl _ _) nof
  refine steps5_cons ?_ ?_
  ·intro f w1 hb hd Q hK
   have e6:f 6=.pointer (some ⟨w.heap.size,5,none⟩):=hd.1 rfl
   clear hd
   simp only [e6] at hK
   have hK:=Lib.hid hK
   have c0:=(hG.below hb).cell 5
   simp only [List.getElem?_toArray,List.getElem?_cons_zero,List.getElem?_cons_succ] at c0
   go_wp2
   exact hK.out _ _ rfl (.refl _ _) nof
  refine steps5_cons ?_ ?_
  ·intro f w1 hb hd Q hK
   have e7:f 7=.slice p2 vs.length c2:=hd.1 rfl
   clear hd
   simp only [e7] at hK
   have hK:=Lib.hid hK
   go_wp2_with fail
   refine (hc2.out _ hb).mono ?_
   rintro e w2 ⟨p,c,rfl,ho,hb2⟩
   replace ho:=Lib.hid ho
   go_wp2
   exact hK.out _ _ ⟨_,_,rfl,own_mono ho.out hb.size⟩ hb2 (fun _ g e=>own_ge ho.out e)
  refine steps5_cons ?_ ?_
  ·intro f w1 hb hd Q hK
   clear hd
   have hK:=Lib.hid hK
   go_wp2
   exact hK.out _ _ rfl (.refl _ _) nof
  refine steps5_cons ?_ ?_
  ·intro f w1 hb hd Q hK
   have e9:f 9=.pointer (some ⟨w.heap.size,6,none⟩):=hd.1 rfl
   clear hd
   simp only [e9] at hK
   have hK:=Lib.hid hK
   have c0:=(hG.below hb).cell 6
   simp only [List.getElem?_toArray,List.getElem?_cons_zero,List.getElem?_cons_succ] at c0
   go_wp2
   exact hK.out _ _ rfl (.refl _ _) nof
  refine steps5_cons ?_ ?_
  ·intro f w1 hb hd Q hK
   have e10:f 10=.slice p3 ss.length c3:=hd.1 rfl
   clear hd
   simp only [e10] at hK
   have hK:=Lib.hid hK
   go_wp2_with fail
   refine (hc3.out _ hb).mono ?_
   rintro e w2 ⟨p,c,rfl,ho,hb2⟩
   replace ho:=Lib.hid ho
   go_wp2
   exact hK.out _ _ ⟨_,_,rfl,own_mono ho.out hb.size⟩ hb2 (fun _ g e=>own_ge ho.out e)
  refine steps5_cons ?_ ?_
  ·intro f w1 hb hd Q hK
   clear hd
   have hK:=Lib.hid hK
   go_wp2
   exact hK.out _ _ rfl (.refl _ _) nof
  trivial
 intro f w1 hb hf hne
 clear hc1 hc2 hc3
 obtain ⟨q0,d0,e0,o0⟩:OwS W0.heap.size 175 2 (n) (dotL ds) (f 5) w1:=hf 2 _ _ (by decide) rfl rfl
 obtain ⟨q1,d1,e1,o1⟩:OwS W0.heap.size 5 1 (vs.length) (bL vs) (f 8) w1:=hf 5 _ _ (by decide) rfl rfl
 obtain ⟨q2,d2,e2,o2⟩:OwS W0.heap.size 5 1 (ss.length) (bL ss) (f 11) w1:=hf 8 _ _ (by decide) rfl rfl
 have n01:=hne 2 5 _ _ 5 8 (by decide) (by decide) (by decide) rfl rfl rfl rfl rfl rfl
 rw [e0,e1] at n01
 replace n01:=Lib.hid n01
 have n02:=hne 2 8 _ _ 5 11 (by decide) (by decide) (by decide) rfl rfl rfl rfl rfl rfl
 rw [e0,e2] at n02
 replace n02:=Lib.hid n02
 have n12:=hne 5 8 _ _ 8 11 (by decide) (by decide) (by decide) rfl rfl rfl rfl rfl rfl
 rw [e1,e2] at n12
 replace n12:=Lib.hid n12
 simp only [e0,e1,e2]
 have hfa:f 12=.pointer (some ⟨w.heap.size,3,none⟩):=hf 9 _ _ (by decide) rfl rfl
 simp only [hfa]
 clear hf hne
 replace hG:=hG.below hb
 replace hR:=hR.below hb
 have hb0:=hbw.trans (hb.mono hbw.size)
 have hne1:(some (w.heap.size+1):Option Nat)≠some w.heap.size:=fun h=>by injection h;omega
 have s0:=grown_setCells w.heap.size [.slice q0 n d0] 3 w1
 have s1:=grown_setCells w.heap.size [.slice q1 vs.length d1] 5 (w1.setCells w.heap.size 3 [.slice q0 n d0])
 have s2:=grown_setCells w.heap.size [.slice q2 ss.length d2] 6 ((w1.setCells w.heap.size 3 [.slice q0 n d0]).setCells w.heap.size 5 [.slice q1 vs.length d1])
 have hR3:=(((hR.grown s0 hne1).grown s1 hne1).grown s2 hne1)
 replace o0:=own_grown (own_grown (own_grown (o0) s0 (fun g h=>by injection h;omega)) s1 (fun g h=>by injection h;omega)) s2 (fun g h=>by injection h;omega)
 replace o0:=Lib.hid o0
 replace o1:=own_grown (own_grown (own_grown (o1) s0 (fun g h=>by injection h;omega)) s1 (fun g h=>by injection h;omega)) s2 (fun g h=>by injection h;omega)
 replace o1:=Lib.hid o1
 replace o2:=own_grown (own_grown (own_grown (o2) s0 (fun g h=>by injection h;omega)) s1 (fun g h=>by injection h;omega)) s2 (fun g h=>by injection h;omega)
 replace o2:=Lib.hid o2
 replace hb0:=(((hb0.grown s0 (by have:=hb.size;have:=hbw.size;first | omega | (simp only [World.setCells,size_setCell];omega)) (fun g h=>by injection h;omega)).grown s1 (by have:=hb.size;have:=hbw.size;first | omega | (simp only [World.setCells,size_setCell];omega)) (fun g h=>by injection h;omega)).grown s2 (by have:=hb.size;have:=hbw.size;first | omega | (simp only [World.setCells,size_setCell];omega)) (fun g h=>by injection h;omega))
 obtain ⟨y0,y1,y2,y3,y4,y5,y6⟩:=blk7 hG
 have fA:=fun j=>hG.frozen j
 clear s0 s1 s2 hR hne1
 have hws4:w.heap.size+2≤((((w1.setCells w.heap.size 3 [.slice q0 n d0]).setCells w.heap.size 5 [.slice q1 vs.length d1]).setCells w.heap.size 6 [.slice q2 ss.length d2])).heap.size:=by have:=hb.size;simp only [World.setCells,size_setCell];omega
 replace hb0:=Lib.hid hb0
 replace hws4:=Lib.hid hws4
 go_wp2_with (refine stRec rfl rfl rfl rfl hR3 rfl (by kernel_rfl) ?_;intro w4 hR4 hg4 hs4;replace hg4:=Lib.hid hg4;clear y0 y1 y2 y3 y4 y5 y6 fA)
 have hb4:=hb0.out.grown hg4.out (Nat.le_trans (by omega) hws4.out) (fun k h=>by injection h with h;omega)
 replace o0:=Lib.hid (own_grown o0.out hg4.out (fun g h=>by injection h;omega))
 replace o1:=Lib.hid (own_grown o1.out hg4.out (fun g h=>by injection h;omega))
 replace o2:=Lib.hid (own_grown o2.out hg4.out (fun g h=>by injection h;omega))
 exact retRec rfl rfl hR4 rfl ⟨_,ob q0++ob q1++ob q2,rfl,⟨q0,d0,q1,d1,q2,d2,rfl,own_mono o0.out (by omega),own_mono o1.out (by omega),own_mono o2.out (by omega),rfl⟩,ob3_nodup (ob_ne n01.out) (ob_ne n02.out) (ob_ne n12.out),hb4⟩
end Go.Proofs.YtnopjabcdloepaaGreatDoor.Rc

namespace Go.Proofs.YtnopjabcdloepaaGreatDoor.Rc
open Go Go.RowKit
def gB (xs:List Int) (j:Nat):Int:=xs.getD j 0
theorem gB_byt {xs:List Int} (h:BR xs):Sc.Byt (gB xs):=fun j=>by
 unfold gB
 rw [List.getD_eq_getElem?_getD]
 cases e:xs[j]? with
 | none=>exact ⟨Int.le_refl _,by decide⟩
 | some x=>exact h x (List.mem_of_getElem? e)
theorem BytesL.bx {w:World} {p:Option Addr} {xs:List Int} (h:BytesL w p xs):BX [] w p xs.length (gB xs):=fun h0=>by
 obtain ⟨g,o,e,hg,hc⟩:=h h0
 exact ⟨g,o,e,hg,by simp,hc⟩
theorem bx_below {w w':World} {p:Option Addr} {n:Nat} {b:Nat→Int} (h:BX [] w p n b) (hb:Below w.heap.size w w'):BX [] w' p n b:=h.ext (Go.Proofs.YtnopjabcdloepaaGreatDoor.Ext.below hb)
def fL (n:Nat) (f:Nat→Int):List Int:=(List.range n).map f
theorem fL_len (n:Nat) (f:Nat→Int):(fL n f).length=n:=by simp [fL]
theorem fL_get (n:Nat) (f:Nat→Int) (j:Nat) (h:j<n):gB (fL n f) j=f j:=by simp [gB,fL,h]
theorem fL_br {n:Nat} {f:Nat→Int} (h:Sc.Byt f):BR (fL n f):=fun x hx=>by
 obtain ⟨j,_,rfl⟩:=List.mem_map.1 hx
 exact h j
theorem rowB_l {w:World} {g n c:Nat} {f:Nat→Int} (h:RowB w g n c f):BytesL w (some ⟨g,0,none⟩) (fL n f):=fun h0=>⟨g,0,rfl,h.lt,fun j hj=>by
 rw [Nat.zero_add,h.cell j (by rw [fL_len] at hj;exact hj)]
 rw [fL_len] at hj
 exact congrArg (fun x=>some (Value.int .u8 x)) (fL_get n f j hj).symm⟩
theorem own_pv {w:World} {B n:Nat} {v:Value} {xs:List Int} (h:w.ownsRow B 5 1 v n (bL xs)):PV w v xs.length (gB xs):=by
 have hn:xs.length=n:=by have:=h.1;rw [bL_len] at this;omega
 rcases h.2 with ⟨rfl,h0⟩ | ⟨g,cap,cur,rfl,h1,h2,h3,h4,h5,h6⟩
 ·exact ⟨none,0,by rw [hn,h0],by omega,fun hm=>absurd hm (by omega)⟩
 refine ⟨some ⟨g,0,none⟩,cap,by rw [hn],by omega,fun _=>⟨g,0,rfl,(Array.getElem?_eq_some_iff.1 h2).1,by simp,fun j hj=>?_⟩⟩
 rw [Nat.zero_add,h.cellAt j (by omega)]
 simp [bL,gB,hj]
theorem right_8 {n:Nat} {D:Nat→Int} (h:RightD n D):n≤8:=by
 have key:∀ i,i<n→(i:Int)+1≤D (i*2):=by
  intro i
  induction i with
  | zero =>
   intro hi
   have:=of_decide_eq_true (h 0 hi).1
   have e:D (0*2)=D 0:=rfl
   rw [e] at this ⊢
   omega
  | succ i ih =>
   intro hi
   have h1:=ih (by omega)
   have h2:=(h (i+1) hi).2 (by omega)
   rw [show i+1-1=i from rfl] at h2
   push_cast
   omega
 by_cases h0:n=0
 ·omega
 have h1:=key (n-1) (by omega)
 have h2:=of_decide_eq_true (h (n-1) (by omega)).1
 omega
theorem txt_le {r:RecD}:(txtL r.k r.cl r.sq r.n r.ds r.gone r.vs).length≤50000:=by
 unfold txtL
 split
 ·rename_i h
  obtain ⟨h1,_,h3,_,h5,_⟩:=shB_true h
  have h8:=right_8 h3
  unfold textL
  rw [List.flatten_append,List.length_append,qL_flat]
  simp only [List.flatten_cons,List.flatten_nil,List.append_nil,List.length_append,List.length_cons,List.length_nil,lenL,numL_len]
  have:=h1.2
  rw [← keyL_len] at this
  omega
 simp
theorem grown_tr7 {w w1 w2:World} {g:Nat} (h1:w.grownBy w1 (some g)) (h2:w1.grownBy w2 (some g)):w.grownBy w2 (some g) :=
 ⟨h2.os.trans h1.os,h2.tape.trans h1.tape,h2.output.trans h1.output,Nat.le_trans h1.size h2.size,fun k hk hne=>(h2.block k (Nat.lt_of_lt_of_le hk h1.size) hne).trans (h1.block k hk hne)⟩
theorem wgrown_set (w:World) (b i:Nat) (v:Value):w.grownBy (w.setCell ⟨b,i,none⟩ v) (some b) :=
 ⟨rfl,rfl,rfl,by simp [World.setCell],fun k _ hk=>Below.heap_setCell _ _ _ _ (fun e=>hk (by simp [e]))⟩
theorem setSeven (w:World) (g:Nat) (a0 a1 a2 a3 a4 a5 a6:Value) {v0 v1 v2 v3 v4 v5 v6:Value} {t:TypeId} (h:Blk w g t #[v0,v1,v2,v3,v4,v5,v6]):Blk (((((((w.setCell ⟨g,0,none⟩ a0).setCell ⟨g,1,none⟩ a1).setCell ⟨g,2,none⟩ a2).setCell ⟨g,3,none⟩ a3).setCell ⟨g,4,none⟩ a4).setCell ⟨g,5,none⟩ a5).setCell ⟨g,6,none⟩ a6) g t #[a0,a1,a2,a3,a4,a5,a6]∧w.grownBy (((((((w.setCell ⟨g,0,none⟩ a0).setCell ⟨g,1,none⟩ a1).setCell ⟨g,2,none⟩ a2).setCell ⟨g,3,none⟩ a3).setCell ⟨g,4,none⟩ a4).setCell ⟨g,5,none⟩ a5).setCell ⟨g,6,none⟩ a6) (some g):=by
 have h0:Blk (w.setCell ⟨g,0,none⟩ a0) g t #[a0,v1,v2,v3,v4,v5,v6]:=h.set_ 0 a0
 have h1:Blk ((w.setCell ⟨g,0,none⟩ a0).setCell ⟨g,1,none⟩ a1) g t #[a0,a1,v2,v3,v4,v5,v6]:=h0.set_ 1 a1
 have h2:Blk (((w.setCell ⟨g,0,none⟩ a0).setCell ⟨g,1,none⟩ a1).setCell ⟨g,2,none⟩ a2) g t #[a0,a1,a2,v3,v4,v5,v6]:=h1.set_ 2 a2
 have h3:Blk ((((w.setCell ⟨g,0,none⟩ a0).setCell ⟨g,1,none⟩ a1).setCell ⟨g,2,none⟩ a2).setCell ⟨g,3,none⟩ a3) g t #[a0,a1,a2,a3,v4,v5,v6]:=h2.set_ 3 a3
 have h4:Blk (((((w.setCell ⟨g,0,none⟩ a0).setCell ⟨g,1,none⟩ a1).setCell ⟨g,2,none⟩ a2).setCell ⟨g,3,none⟩ a3).setCell ⟨g,4,none⟩ a4) g t #[a0,a1,a2,a3,a4,v5,v6]:=h3.set_ 4 a4
 have h5:Blk ((((((w.setCell ⟨g,0,none⟩ a0).setCell ⟨g,1,none⟩ a1).setCell ⟨g,2,none⟩ a2).setCell ⟨g,3,none⟩ a3).setCell ⟨g,4,none⟩ a4).setCell ⟨g,5,none⟩ a5) g t #[a0,a1,a2,a3,a4,a5,v6]:=h4.set_ 5 a5
 have h6:Blk (((((((w.setCell ⟨g,0,none⟩ a0).setCell ⟨g,1,none⟩ a1).setCell ⟨g,2,none⟩ a2).setCell ⟨g,3,none⟩ a3).setCell ⟨g,4,none⟩ a4).setCell ⟨g,5,none⟩ a5).setCell ⟨g,6,none⟩ a6) g t #[a0,a1,a2,a3,a4,a5,a6]:=h5.set_ 6 a6
 exact ⟨h6,(grown_tr7 (grown_tr7 (grown_tr7 (grown_tr7 (grown_tr7 (grown_tr7 (wgrown_set _ _ _ _) (wgrown_set _ _ _ _)) (wgrown_set _ _ _ _)) (wgrown_set _ _ _ _)) (wgrown_set _ _ _ _)) (wgrown_set _ _ _ _)) (wgrown_set _ _ _ _))⟩
end Go.Proofs.YtnopjabcdloepaaGreatDoor.Rc

namespace Go.Proofs.YtnopjabcdloepaaGreatDoor.Rc
open Go Go.RowKit
theorem txt_br {k:ByteArray} {cl sq:Int} {n:Nat} {ds:List Int} {gone:Bool} {vs:List Int} (h:BR vs):BR (txtL k cl sq n ds gone vs):=br_txt _ _ _ _ _ _ _ h
def tP (k:ByteArray) (cl sq:Int) (n:Nat) (ds:List Int) (gone:Bool) (vs:List Int):Sh.Ps:=[((txtL k cl sq n ds gone vs).length,gB (txtL k cl sq n ds gone vs))]
def PostSr (F:Nat→Int) (k:ByteArray) (cl sq:Int) (n:Nat) (ds:List Int) (gone:Bool) (vs:List Int) (w:World) (e:Ending) (w':World):Prop:=∃ q1 d1 q2 d2 g3 d3,e=.returned (.tuple #[.agg #[.string k,.int .i64 cl,.int .i64 sq,.slice q1 n d1,.bool gone,.slice q2 vs.length d2,.slice (some ⟨g3,0,none⟩) 64 d3],.int .i64 0])∧w'.ownsRow w.heap.size 175 2 (.slice q1 n d1) n (dotL ds)∧w'.ownsRow w.heap.size 5 1 (.slice q2 vs.length d2) vs.length (bL vs)∧w.heap.size≤g3∧RowB w' g3 64 d3 (Sh.sigI F (tP k cl sq n ds gone vs))∧Below w.heap.size w w'
set_option maxRecDepth 20000 in
set_option maxHeartbeats 4000000 in
theorem Seal_ok (p:Option Addr) (c:Nat) (F:Nat→Int) (hc:32≤c) (hF:Sc.Byt F) (r:RecD) (hok:r.ok) (p1:Option Addr) (c1:Nat) (p2:Option Addr) (c2:Nat) (p3:Option Addr) (c3:Nat) (hyes:shB r.k.size r.cl r.sq r.n r.ds r.gone r.vs.length=true) (w:World) (hX:BX [] w p 32 F) (hD:DotsL w p1 r.n r.ds) (hV:BytesL w p2 r.vs) (hSs:BytesL w p3 r.ss) (hS:ShP w) (hCv:CvP w) :
  Calls Tryz.prog 35 #[.slice p 32 c,recV r p1 c1 p2 c2 p3 c3] w (PostSr F r.k r.cl r.sq r.n r.ds r.gone r.vs w):=by
 have hB:=hS.lt
 have how:=fun w1 (hb:Below w.heap.size w w1)=>recOwn_c r p1 c1 p2 c2 p3 c3 hok w1 (hD.below hb) (hV.below hb) (hSs.below hb)
 have htl:=txt_le (r:=r)
 unfold PostRO RecO at how
 obtain ⟨k,cl,sq,n,ds,gone,vs,ss⟩:=r
 obtain ⟨hn,hv,hs,hbv,-⟩:=hok
 dsimp only at *
 unfold recV at how ⊢
 dsimp only at *
 have hpx:=Lib.hid (fun w1 (hb:Below w.heap.size w w1)=>Public_c p c F hc (fun j _=>hF j) w1 (bx_below hX hb) (hS.below hb hB) (by have:=hb.size;omega) (hCv.below hb hCv.lt))
 have hsh:=fun w1 (hb:Below w.heap.size w w1)=>shaped_c k cl sq p1 n c1 gone p2 vs.length c2 p3 ss.length c3 ds (by omega) w1 (hD.below hb)
 rw [hyes] at hsh
 replace hsh:=Lib.hid hsh
 have htr:=txt_br (k:=k) (cl:=cl) (sq:=sq) (n:=n) (ds:=ds) (gone:=gone) hbv
 have htx:=fun w1 (hb:Below w.heap.size w w1)=>(show Calls Tryz.prog 115 #[.agg #[.string k,.int .i64 cl,.int .i64 sq,.slice p1 n c1,.bool gone,.slice p2 vs.length c2,.slice p3 ss.length c3]] w1 (PostO (txtL k cl sq n ds gone vs) w1) from by
  obtain ⟨h1,h2,h3,h4,h5,h6⟩:=shB_true hyes
  have e:txtL k cl sq n ds gone vs=textL k cl sq n ds gone vs:=by unfold txtL;rw [if_pos hyes]
  rw [e]
  exact text_o k cl sq p1 n c1 gone p2 vs.length c2 p3 ss.length c3 ds vs h1.2 (by omega) (by omega) (by omega) (by omega) (by omega) rfl h5 w1 (hD.below hb) (hV.below hb) (dots_range h3))
 unfold PostSr tP
 generalize txtL k cl sq n ds gone vs=T at *
 have hsg:=fun v w1 (hb:Below w.heap.size w w1) (hv:PV w1 v T.length (gB T))=>show Calls Tryz.prog 114 #[.slice p 32 c,.slice (some ⟨w1.heap.size,0,none⟩) 1 1] (w1.alloc (.cells #[v] 22)) (PostBs 64 (Sh.sigI F [(T.length,gB T)]) w1) from by
  have ha:Below w1.heap.size w1 (w1.alloc (.cells #[v] 22)):=(Below.refl _ _).alloc (Nat.le_refl _) _
  have hb2:=hb.trans (ha.mono hb.size)
  exact (Sign_c p c F hc (fun j _=>hF j) (.slice (some ⟨w1.heap.size,0,none⟩) 1 1) [v] [(T.length,gB T)] (w1.alloc (.cells #[v] 22)) (bx_below hX hb2) (parts_new w1 [v] (by show 0<1;decide) _) ⟨hv.below ha,trivial⟩ ⟨fun j _=>gB_byt htr j,trivial⟩ (by show T.length+0≤1000000;omega) (by show 1≤10000;decide) (hS.below hb2 hB) (by have:=hb2.size;omega) (hCv.below hb2 hCv.lt)).mono (fun e w' ⟨g',c',he,hg,hR,hbb⟩=>⟨g',c',he,by have:=ha.size;omega,hR,ha.trans (hbb.mono ha.size)⟩)
 generalize Sh.sigI F [(T.length,gB T)]=SG at *
 replace how:=Lib.hid how
 replace htx:=Lib.hid htx
 replace hsg:=Lib.hid hsg
 clear hS hCv hX hD hV hSs hyes hn hv hs hbv hF hc htl htr
 go_enter Tryz.func35,Tryz.ntmps35
 go_wp2_with fail
 refine calls_at (fun W hW=>?_)
 have hb0:Below w.heap.size w W:=by rw [hW];go_grown
 obtain ⟨gR,hgR⟩:∃ g,g=w.heap.size:=⟨_,rfl⟩
 obtain ⟨gZ,hgZ⟩:∃ g,g=w.heap.size+1:=⟨_,rfl⟩
 obtain ⟨gW,hgW⟩:∃ g,g=w.heap.size+1+1:=⟨_,rfl⟩
 have kR:Blk W gR 45 #[.string k,.int .i64 cl,.int .i64 sq,.slice p1 n c1,.bool gone,.slice p2 vs.length c2,.slice p3 ss.length c3]:=by rw [hW,hgR];exact ((Blk.new _ _ _).alloc _).alloc _
 have kZ:Blk W gZ 45 #[.string ⟨#[]⟩,.int .i64 0,.int .i64 0,.slice none 0 0,.bool false,.slice none 0 0,.slice none 0 0]:=by rw [hW,hgZ];exact (blk_at (by simp) (Blk.new _ _ _)).alloc _
 have kW:Blk W gW 155 #[.string k,.int .i64 cl,.int .i64 sq,.slice p1 n c1,.bool gone,.slice p2 vs.length c2,.slice p3 ss.length c3]:=by rw [hW,hgW];exact blk_at (by simp) (Blk.new _ _ _)
 have lR:w.heap.size≤gR:=by omega
 have lZ:w.heap.size≤gZ:=by omega
 have nRZ:gR≠gZ:=by omega
 have nWR:gW≠gR:=by omega
 rw [← hgW,← hgZ,← hgR]
 clear hW hgZ hgW hgR
 refine (hpx.out W hb0).mono ?_
 rintro e w2 ⟨gk,ck,rfl,_,_,hb⟩
 replace kR:=kR.below hb
 replace kZ:=kZ.below hb
 replace kW:=kW.below hb
 replace hb0:=hb0.trans (hb.mono hb0.size)
 clear hb hpx
 have he:=eqnilB_some ⟨gk,0,none⟩ 32 ck
 obtain ⟨y0,y1,y2,y3,y4,y5,y6⟩:=blk7 kW
 go_wp2_with fail
 refine (hsh.out w2 hb0).mono ?_
 rintro e w3 ⟨rfl,hb⟩
 replace kR:=kR.below hb
 replace kZ:=kZ.below hb
 replace kW:=kW.below hb
 replace hb0:=hb0.trans (hb.mono hb0.size)
 clear hb hsh y0 y1 y2 y3 y4 y5 y6 he
 obtain ⟨y0,y1,y2,y3,y4,y5,y6⟩:=blk7 kR
 go_wp2_with fail
 refine (how.out w3 hb0).mono ?_
 rintro e w4 ⟨v,bl,rfl,⟨q1,d1,q2,d2,q3,d3,rfl,o1,o2,o3,-⟩,-,hb⟩
 have lR3:gR<w3.heap.size:=kR.lt
 have lZ3:gZ<w3.heap.size:=kZ.lt
 have hs3:=hb0.size
 replace kR:=kR.below hb
 replace kZ:=kZ.below hb
 replace kW:=kW.below hb
 have ls4:=hb.size
 replace hb0:=hb0.trans (hb.mono hb0.size)
 have hs4:=hb0.size
 replace o1:=Lib.hid o1
 replace o2:=Lib.hid o2
 clear hb how o3 y0 y1 y2 y3 y4 y5 y6
 obtain ⟨y0,y1,y2,y3,y4,y5,y6⟩:=blk7 kR
 have f0:=kR.frozen 0
 have f1:=kR.frozen 1
 have f2:=kR.frozen 2
 have f3:=kR.frozen 3
 have f4:=kR.frozen 4
 have f5:=kR.frozen 5
 have f6:=kR.frozen 6
 have lRt:=kR.lt
 have hS7:=setSeven w4 gR (.string k) (.int .i64 cl) (.int .i64 sq) (.slice q1 n d1) (.bool gone) (.slice q2 vs.length d2) (.slice q3 ss.length d3) kR
 replace kZ:=Lib.hid kZ
 replace kW:=Lib.hid kW
 replace kR:=Lib.hid kR
 replace hb0:=Lib.hid hb0
 replace hS7:=Lib.hid hS7
 go_upto_region 7 with fail
 refine at_world (fun w5 hW=>?_)
 obtain ⟨hR5,hg5⟩:=hS7.out
 rw [← hW] at hR5 hg5
 have kZ5:=kZ.out.grown hg5 (fun e=>nRZ (Option.some.inj e).symm)
 have kW5:=kW.out.grown hg5 (fun e=>nWR (Option.some.inj e))
 have hb5:Below w.heap.size w w5:=hb0.out.grown hg5 hs4 (fun k hk=>by have:gR=k:=Option.some.inj hk;omega)
 replace o1:=own_grown o1.out hg5 (fun g e=>by injection e;omega)
 replace o2:=own_grown o2.out hg5 (fun g e=>by injection e;omega)
 clear hW hS7 kR kW kZ hb0 hg5 ls4 y0 y1 y2 y3 y4 y5 y6 f0 f1 f2 f3 f4 f5 f6 lRt
 obtain ⟨y0,y1,y2,y3,y4,y5,y6⟩:=blk7 kW5
 go_wp2_with fail
 refine (htx.out w5 hb5).mono ?_
 rintro e w6 ⟨v,n6,rfl,ho,hb⟩
 obtain ⟨pt,ct,rfl,hct,hbx⟩:=own_pv ho
 replace o1:=below_kept o1 hb
 replace o2:=below_kept o2 hb
 replace kZ5:=kZ5.below hb
 replace hR5:=hR5.below hb
 replace hb5:=hb5.trans (hb.mono hb5.size)
 clear hb ho htx y0 y1 y2 y3 y4 y5 y6 kW5
 go_wp2_with fail
 refine (hsg.out (.slice pt T.length ct) w6 hb5 ⟨pt,ct,rfl,hct,hbx⟩).mono ?_
 rintro e w7 ⟨g3,d3,rfl,lg3,kG,hb⟩
 have l6:=hb5.size
 have lR6:g3≠gR:=by have:=hR5.lt;omega
 have lZ6:g3≠gZ:=by have:=kZ5.lt;omega
 have lg6:w.heap.size≤g3:=by omega
 replace o1:=below_kept o1 hb
 replace o2:=below_kept o2 hb
 replace kZ5:=kZ5.below hb
 replace hR5:=hR5.below hb
 replace hb5:=hb5.trans (hb.mono hb5.size)
 clear hb hsg hbx hct l6 lg3
 have y6:=(blk7 hR5).2.2.2.2.2.2
 have f6:=hR5.frozen 6
 have lRt:=hR5.lt
 have hs7:=hb5.size
 replace kZ5:=Lib.hid kZ5
 replace kG:=Lib.hid kG
 replace hb5:=Lib.hid hb5
 replace o1:=Lib.hid o1
 replace o2:=Lib.hid o2
 go_upto_region 8 with fail
 refine at_world (fun w8 hW=>?_)
 have hR8:=hR5.set_ 6 (.slice (some ⟨g3,0,none⟩) 64 d3)
 have hg8:=wgrown_set w7 gR 6 (.slice (some ⟨g3,0,none⟩) 64 d3)
 rw [← hW] at hR8 hg8
 have kZ8:=kZ5.out.grown hg8 (fun e=>nRZ (Option.some.inj e).symm)
 have kG8:=kG.out.grown hg8 (fun e=>lR6 (Option.some.inj e))
 have hb8:Below w.heap.size w w8:=hb5.out.grown hg8 hs7 (fun k hk=>by have:gR=k:=Option.some.inj hk;omega)
 replace o1:=own_grown o1.out hg8 (fun g e=>by injection e;omega)
 replace o2:=own_grown o2.out hg8 (fun g e=>by injection e;omega)
 clear hW hR5 hg8 kZ5 kG hb5 y6 f6 lRt hs7
 obtain ⟨y0,y1,y2,y3,y4,y5,y6⟩:=blk7 hR8
 obtain ⟨z0,z1,z2,z3,z4,z5,z6⟩:=blk7 kZ8
 have f0:=kZ8.frozen 0
 have f1:=kZ8.frozen 1
 have f2:=kZ8.frozen 2
 have f3:=kZ8.frozen 3
 have f4:=kZ8.frozen 4
 have f5:=kZ8.frozen 5
 have f6:=kZ8.frozen 6
 have lZt:=kZ8.lt
 have hs8:=hb8.size
 have hS7:=setSeven w8 gZ (.string k) (.int .i64 cl) (.int .i64 sq) (.slice q1 n d1) (.bool gone) (.slice q2 vs.length d2) (.slice (some ⟨g3,0,none⟩) 64 d3) kZ8
 replace hS7:=Lib.hid hS7
 replace kG8:=Lib.hid kG8
 replace hb8:=Lib.hid hb8
 replace o1:=Lib.hid o1
 replace o2:=Lib.hid o2
 clear kZ8 hR8
 go_wp2_with fail
 obtain ⟨kF,hgF⟩:=hS7.out
 generalize (((((((w8.setCell ⟨gZ,0,none⟩ (.string k)).setCell ⟨gZ,1,none⟩ (.int .i64 cl)).setCell ⟨gZ,2,none⟩ (.int .i64 sq)).setCell ⟨gZ,3,none⟩ (.slice q1 n d1)).setCell ⟨gZ,4,none⟩ (.bool gone)).setCell ⟨gZ,5,none⟩ (.slice q2 vs.length d2)).setCell ⟨gZ,6,none⟩ (.slice (some ⟨g3,0,none⟩) 64 d3))=w13 at *
 obtain ⟨u0,u1,u2,u3,u4,u5,u6⟩:=blk7 kF
 have hbf:Below w.heap.size w w13:=hb8.out.grown hgF hs8 (fun k hk=>by have:gZ=k:=Option.some.inj hk;omega)
 exact bodyPost_ret (v:=.tuple #[.agg #[.string k,.int .i64 cl,.int .i64 sq,.slice q1 n d1,.bool gone,.slice q2 vs.length d2,.slice (some ⟨g3,0,none⟩) 64 d3],.int .i64 0]) (by simp [results,Tryz.results35,go_sem,u0,u1,u2,u3,u4,u5,u6]) rfl ⟨q1,d1,q2,d2,g3,d3,rfl,own_mono (own_grown o1.out hgF (fun g e=>by injection e;omega)) hs3,own_mono (own_grown o2.out hgF (fun g e=>by injection e;omega)) hs3,lg6,kG8.out.grown hgF (fun e=>lZ6 (Option.some.inj e)),hbf⟩
end Go.Proofs.YtnopjabcdloepaaGreatDoor.Rc

namespace Go.Proofs.YtnopjabcdloepaaGreatDoor.Rc
open Go Go.RowKit
def vfR (K:Nat→Int) (r:RecD):Bool:=Sh.verI K (gB r.ss) (tP r.k r.cl r.sq r.n r.ds r.gone r.vs)
def ckR (K:Nat→Int) (r:RecD):Int:=if rightR r.k.size r.cl r.sq r.n r.ds r.gone r.vs.length r.ss.length then (if vfR K r then 0 else 20) else 4
set_option maxRecDepth 20000 in
set_option maxHeartbeats 4000000 in
theorem Check_no (v:Value) (k:ByteArray) (cl sq:Int) (p1:Option Addr) (n1 c1:Nat) (gone:Bool) (p2:Option Addr) (n2 c2:Nat) (p3:Option Addr) (n3 c3:Nat) (ds:List Int) (hn1:n1≤100000) (hno:rightR k.size cl sq n1 ds gone n2 n3=false) (w:World) (hD:DotsL w p1 n1 ds) :
  Calls Tryz.prog 66 #[v,.agg #[.string k,.int .i64 cl,.int .i64 sq,.slice p1 n1 c1,.bool gone,.slice p2 n2 c2,.slice p3 n3 c3]] w (PostV (.int .i64 4) w):=by
 have hrt:=fun w1 (hb:Below w.heap.size w w1)=>recRight_c k cl sq p1 n1 c1 gone p2 n2 c2 p3 n3 c3 ds (by omega) w1 (hD.below hb)
 rw [hno] at hrt
 replace hrt:=Lib.hid hrt
 clear hD hno hn1
 go_enter Tryz.func66,Tryz.ntmps66
 go_wp2_with fail
 refine calls_at (fun W hW=>?_)
 have hb0:Below w.heap.size w W:=by rw [hW];go_grown
 clear hW
 refine (hrt.out W hb0).mono ?_
 rintro e w2 ⟨rfl,hb⟩
 replace hb0:=hb0.trans (hb.mono hb0.size)
 clear hb hrt
 go_wp2_with fail
 go_returns
 exact ⟨rfl,hb0⟩
set_option maxRecDepth 20000 in
set_option maxHeartbeats 4000000 in
theorem Check_yes (K:Nat→Int) (hK:Sc.Byt K) (gk ok ck:Nat) (hck:32≤ck) (r:RecD) (hok:r.ok) (p1:Option Addr) (c1:Nat) (p2:Option Addr) (c2:Nat) (p3:Option Addr) (c3:Nat) (hc3:64≤c3) (hyes:rightR r.k.size r.cl r.sq r.n r.ds r.gone r.vs.length r.ss.length=true) (w:World) (lk:gk<w.heap.size) (hk:∀ j,j<32→w.cell? ⟨gk,ok+j,none⟩=some (.int .u8 (K j))) (hD:DotsL w p1 r.n r.ds) (hV:BytesL w p2 r.vs) (hSs:BytesL w p3 r.ss) (hS:ShP w) (hCv:CvP w) :
  Calls Tryz.prog 66 #[.slice (some ⟨gk,ok,none⟩) 32 ck,recV r p1 c1 p2 c2 p3 c3] w (PostV (.int .i64 (if vfR K r then 0 else 20)) w):=by
 have hB:=hS.lt
 have htl:=txt_le (r:=r)
 unfold vfR
 obtain ⟨k,cl,sq,n,ds,gone,vs,ss⟩:=r
 obtain ⟨hn,hv,hs,hbv,hbs⟩:=hok
 dsimp only at *
 unfold recV
 dsimp only at *
 have hrt:=fun w1 (hb:Below w.heap.size w w1)=>recRight_c k cl sq p1 n c1 gone p2 vs.length c2 p3 ss.length c3 ds (by omega) w1 (hD.below hb)
 rw [hyes] at hrt
 have h64:ss.length=64:=by
  unfold rightR at hyes
  rw [Bool.and_eq_true,decide_eq_true_eq] at hyes
  exact hyes.2
 have htr:=txt_br (k:=k) (cl:=cl) (sq:=sq) (n:=n) (ds:=ds) (gone:=gone) hbv
 have htx:=fun w1 (hb:Below w.heap.size w w1)=>recText_o k cl sq p1 n c1 gone p2 vs.length c2 p3 ss.length c3 ds vs (by omega) rfl w1 (hD.below hb) (hV.below hb)
 unfold tP
 generalize txtL k cl sq n ds gone vs=T at *
 obtain ⟨g,o,rfl,lg,hgc⟩:=hSs (by omega)
 rw [h64] at hrt htx ⊢
 replace hrt:=Lib.hid hrt
 have hvf:=fun v w1 (hb:Below w.heap.size w w1) (hv:PV w1 v T.length (gB T))=>show Calls Tryz.prog 82 #[.slice (some ⟨gk,ok,none⟩) 32 ck,.slice (some ⟨g,o,none⟩) 64 c3,.slice (some ⟨w1.heap.size,0,none⟩) 1 1] (w1.alloc (.cells #[v] 22)) (PostV (.bool (Sh.verI K (gB ss) [(T.length,gB T)])) w1) from by
  have ha:Below w1.heap.size w1 (w1.alloc (.cells #[v] 22)):=(Below.refl _ _).alloc (Nat.le_refl _) _
  have hb2:=hb.trans (ha.mono hb.size)
  exact (Verify_c gk ok ck g o c3 K (gB ss) (.slice (some ⟨w1.heap.size,0,none⟩) 1 1) [v] [(T.length,gB T)] (w1.alloc (.cells #[v] 22)) hck hc3 hK (gB_byt hbs) (Nat.lt_of_lt_of_le lk hb2.size) (fun j hj=>(hb2.cell (p:=⟨gk,ok+j,none⟩) lk).trans (hk j hj)) (Nat.lt_of_lt_of_le lg hb2.size) (fun j hj=>(hb2.cell (p:=⟨g,o+j,none⟩) lg).trans (hgc j (by omega))) (hCv.below hb2 hCv.lt) (parts_new w1 [v] (by show 0<1;decide) _) ⟨hv.below ha,trivial⟩ ⟨fun j _=>gB_byt htr j,trivial⟩ (by show T.length+0≤1000000;omega) (by show 1≤10000;decide) (hS.below hb2 hB) (by have:=hb2.size;omega)).mono (fun e w' ⟨he,hbb⟩=>⟨he,ha.trans (hbb.mono ha.size)⟩)
 generalize Sh.verI K (gB ss) [(T.length,gB T)]=VF at *
 obtain ⟨CD,hCD⟩:∃ CD:Int,CD=if VF=true then 0 else 20:=⟨_,rfl⟩
 rw [← hCD]
 replace hCD:=Lib.hid hCD
 replace htx:=Lib.hid htx
 replace hvf:=Lib.hid hvf
 clear hS hCv hD hV hSs hyes hn hv hs hbv hbs htl htr hgc h64 hk hK hc3 hck lk lg
 go_enter Tryz.func66,Tryz.ntmps66
 go_wp2_with fail
 refine calls_at (fun W hW=>?_)
 have hb0:Below w.heap.size w W:=by rw [hW];go_grown
 obtain ⟨gX,hgX⟩:∃ g,g=w.heap.size:=⟨_,rfl⟩
 have kX:Blk W gX 45 #[.string k,.int .i64 cl,.int .i64 sq,.slice p1 n c1,.bool gone,.slice p2 vs.length c2,.slice (some ⟨g,o,none⟩) 64 c3]:=by rw [hW,hgX];exact Blk.new _ _ _
 rw [← hgX]
 clear hW hgX
 refine (hrt.out W hb0).mono ?_
 rintro e w2 ⟨rfl,hb⟩
 replace kX:=kX.below hb
 replace hb0:=hb0.trans (hb.mono hb0.size)
 clear hb hrt
 go_upto_region 3 with fail
 have hSS:=Lib.hid (fun w' (hb:Below w2.heap.size w2 w')=>(blk7 (kX.below hb):w'.cell? ⟨gX,0,none⟩=some (.string k)∧w'.cell? ⟨gX,1,none⟩=some (.int .i64 cl)∧w'.cell? ⟨gX,2,none⟩=some (.int .i64 sq)∧w'.cell? ⟨gX,3,none⟩=some (.slice p1 n c1)∧w'.cell? ⟨gX,4,none⟩=some (.bool gone)∧w'.cell? ⟨gX,5,none⟩=some (.slice p2 vs.length c2)∧w'.cell? ⟨gX,6,none⟩=some (.slice (some ⟨g,o,none⟩) 64 c3)))
 have z0:=Below.refl w2.heap.size w2
 have hs:=Lib.hid hb0.size
 replace hb0:=Lib.hid hb0
 clear kX
 go_region_held3 (fun w'=>w'.cell? ⟨gX,0,none⟩=some (.string k)∧w'.cell? ⟨gX,1,none⟩=some (.int .i64 cl)∧w'.cell? ⟨gX,2,none⟩=some (.int .i64 sq)∧w'.cell? ⟨gX,3,none⟩=some (.slice p1 n c1)∧w'.cell? ⟨gX,4,none⟩=some (.bool gone)∧w'.cell? ⟨gX,5,none⟩=some (.slice p2 vs.length c2)∧w'.cell? ⟨gX,6,none⟩=some (.slice (some ⟨g,o,none⟩) 64 c3)) (first | exact hSS.out _ n2 | exact hSS.out _ n1 | exact hSS.out _ z0 | exact hSS.out _ z0.drew | exact hSS.out _ (n1.alloc n1.size _)) (first | (go_at_call 64;refine calls_at (fun V1 h1=>?_);have m1:Below w2.heap.size w2 V1:=(by rw [h1];go_grown);clear h1;(with_reducible refine (htx.out V1 (hb0.out.trans (m1.mono hs.out))).mono ?_);rintro e w3 ⟨v,n6,rfl,ho,hbb⟩;obtain ⟨pt,ct,rfl,hct,hbx⟩:=own_pv ho;have n1:=m1.trans (hbb.mono m1.size);clear hbb m1 htx ho) | (go_at_call 82;refine (hvf.out (.slice pt T.length ct) w3 (hb0.out.trans (n1.mono hs.out)) ⟨pt,ct,rfl,hct,hbx⟩).mono ?_;rintro e w4 ⟨rfl,hbb⟩;have n2:=n1.trans (hbb.mono n1.size);clear hbb hvf))
 all_goals
  have hP:=Lib.hid (hb0.out.trans (n2.mono hs.out))
  clear hSS n2 n1 z0 hb0 hs hbx hct
  cases VF with
  | true =>
   have e0:=Lib.hid (show CD=0 from hCD.out)
   clear hCD
   go_wp2_with fail
   go_returns
   exact ⟨by rw [e0.out];rfl,hP.out⟩
  | false =>
   have e0:=Lib.hid (show CD=20 from hCD.out)
   clear hCD
   go_wp2_with fail
   go_returns
   exact ⟨by rw [e0.out];rfl,hP.out⟩
theorem Check_any (K:Nat→Int) (hK:Sc.Byt K) (gk ok ck:Nat) (hck:32≤ck) (r:RecD) (hok:r.ok) (p1:Option Addr) (c1:Nat) (p2:Option Addr) (c2:Nat) (p3:Option Addr) (c3:Nat) (hc3:r.ss.length≤c3) (w:World) (lk:gk<w.heap.size) (hk:∀ j,j<32→w.cell? ⟨gk,ok+j,none⟩=some (.int .u8 (K j))) (hD:DotsL w p1 r.n r.ds) (hV:BytesL w p2 r.vs) (hSs:BytesL w p3 r.ss) (hS:ShP w) (hCv:CvP w) :
  Calls Tryz.prog 66 #[.slice (some ⟨gk,ok,none⟩) 32 ck,recV r p1 c1 p2 c2 p3 c3] w (PostV (.int .i64 (ckR K r)) w):=by
 unfold ckR
 cases h:rightR r.k.size r.cl r.sq r.n r.ds r.gone r.vs.length r.ss.length with
 | true =>
  have h64:r.ss.length=64:=by
   unfold rightR at h
   rw [Bool.and_eq_true,decide_eq_true_eq] at h
   exact h.2
  rw [if_pos rfl]
  exact Check_yes K hK gk ok ck hck r hok p1 c1 p2 c2 p3 c3 (by omega) h w lk hk hD hV hSs hS hCv
 | false =>
  rw [if_neg (by decide)]
  exact Check_no _ r.k r.cl r.sq p1 r.n c1 r.gone p2 r.vs.length c2 p3 r.ss.length c3 r.ds hok.1 h w hD
end Go.Proofs.YtnopjabcdloepaaGreatDoor.Rc
