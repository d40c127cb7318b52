import Derived.Test.YtnopjabcdloepaaGreatDoorCi
import Derived.Lib.AppendZeros
namespace Sh
open Go.Proofs.YtnopjabcdloepaaGreatDoor
abbrev Ps:=List (Nat × (Nat→Int))
def lenI:Ps→Nat
 | []=>0
 | x::l=>x.1+lenI l
def catI:Ps→Nat→Int
 | [],_=>0
 | x::l,j=>if j<x.1 then x.2 j else catI l (j-x.1)
def BytI:Ps→Prop
 | []=>True
 | x::l=>(∀ j,j<x.1→0≤x.2 j∧x.2 j<256)∧BytI l
theorem catI_r:∀ l,BytI l→∀ j,0≤catI l j∧catI l j<256
 | [],_,_=>⟨Int.le_refl _,by unfold catI;decide⟩
 | x::l,h,j=>by
  unfold catI
  split
  ·exact h.1 j (by assumption)
  exact catI_r l h.2 _
def offI (l:Ps) (i:Nat):Nat:=lenI (l.take i)
theorem offI_step:∀ (l:Ps) (i:Nat) (x:Nat × (Nat→Int)),l[i]?=some x→offI l (i+1)=offI l i+x.1∧∀ j,j<x.1→catI l (offI l i+j)=x.2 j
 | [],_,_,h=>by simp at h
 | y::l,0,x,h=>by
  simp only [List.getElem?_cons_zero,Option.some.injEq] at h
  subst h
  refine ⟨by simp [offI,lenI],fun j hj=>?_⟩
  simp [offI,lenI,catI,hj]
 | y::l,i+1,x,h=>by
  simp only [List.getElem?_cons_succ] at h
  obtain ⟨h1,h2⟩:=offI_step l i x h
  have e:∀ k,offI (y::l) (k+1)=y.1+offI l k:=fun k=>by simp [offI,lenI]
  refine ⟨by rw [e,e,h1];omega,fun j hj=>?_⟩
  rw [e]
  unfold catI
  rw [if_neg (by omega),show y.1+offI l i+j-y.1=offI l i+j by omega]
  exact h2 j hj
theorem offI_mono (l:Ps) (i:Nat):offI l i≤offI l (i+1):=by
 cases h:l[i]? with
 | some x=>rw [(offI_step l i x h).1];omega
 | none =>
  have:=List.getElem?_eq_none_iff.1 h
  unfold offI
  rw [List.take_of_length_le this,List.take_of_length_le (by omega)]
  exact Nat.le_refl _
theorem sumI_congr {n:Nat} {b c:Nat→Int} (h:∀ j,j<n→b j=c j):sumI n b=sumI n c:=by
 have e:joinI n b=joinI n c:=funext fun j=>by
  unfold joinI
  split
  ·exact h j (by assumption)
  rfl
 unfold sumI
 rw [e]
theorem sumI_byt (n:Nat) (b:Nat→Int):Sc.Byt (sumI n b):=fun j=>⟨Int.emod_nonneg _ (by decide),Int.emod_lt_of_pos _ (by decide)⟩
end Sh
namespace Go.Proofs.YtnopjabcdloepaaGreatDoor
open Go Go.RowKit
def PV (w:World) (u:Value) (n:Nat) (f:Nat→Int):Prop:=∃ p c,u=.slice p n c∧n≤c∧BX [] w p n f
def PVs (w:World):List Value→Sh.Ps→Prop
 | [],[]=>True
 | u::cs,x::l=>PV w u x.1 x.2∧PVs w cs l
 | _,_=>False
theorem PV.below {w w':World} {u:Value} {n:Nat} {f:Nat→Int} (h:PV w u n f) (hb:Below w.heap.size w w'):PV w' u n f:=by
 obtain ⟨p,c,e,h1,h2⟩:=h
 exact ⟨p,c,e,h1,h2.ext (Ext.below hb)⟩
theorem PVs.below {w w':World} (hb:Below w.heap.size w w'):∀ {cs:List Value} {l:Sh.Ps},PVs w cs l→PVs w' cs l
 | [],[],_=>trivial
 | _::_,_::_,h=>⟨h.1.below hb,PVs.below hb h.2⟩
 | [],_::_,h=>h.elim
 | _::_,[],h=>h.elim
theorem PVs.one {w:World}:∀ {cs:List Value} {l:Sh.Ps},PVs w cs l→∀ u∈cs,u.oneCell'=true
 | [],[],_,u,hu=>by cases hu
 | v::cs,x::l,h,u,hu=>by
  rcases List.mem_cons.1 hu with e | e
  ·obtain ⟨p,c,e2,_⟩:=h.1
   rw [e,e2];rfl
  exact PVs.one h.2 u e
 | [],_::_,h,_,_=>h.elim
 | _::_,[],h,_,_=>h.elim
theorem PVs.len {w:World}:∀ {cs:List Value} {l:Sh.Ps},PVs w cs l→cs.length=l.length
 | [],[],_=>rfl
 | _::_,_::_,h=>congrArg (· + 1) (PVs.len h.2)
 | [],_::_,h=>h.elim
 | _::_,[],h=>h.elim
theorem PVs.get {w:World}:∀ {cs:List Value} {l:Sh.Ps},PVs w cs l→∀ i,i<cs.length→∃ u x,cs[i]?=some u∧l[i]?=some x∧PV w u x.1 x.2
 | u::cs,x::l,h,0,_=>⟨u,x,rfl,rfl,h.1⟩
 | u::cs,x::l,h,i+1,hi=>by
  obtain ⟨u2,x2,h1,h2,h3⟩:=PVs.get h.2 i (by simp at hi;omega)
  exact ⟨u2,x2,h1,h2,h3⟩
 | [],_,_,_,hi=>by simp at hi
 | _::_,[],h,_,_=>h.elim
theorem sha_l (g o c:Nat) (cs:List Value) (l:Sh.Ps) (w:World) (hg:g<w.heap.size) (hcell:∀ j u,cs[j]?=some u→w.cell? ⟨g,o+j,none⟩=some u) (hl:PVs w cs l) (hr:Sh.BytI l) (hn:Sh.lenI l≤10000000) (hk:cs.length≤1000000) (hS:ShP w) (hB:3<w.heap.size):Calls Tryz.prog 160 #[.slice (some ⟨g,o,none⟩) cs.length c] w (PostBs 64 (Sh.sumI (Sh.lenI l) (Sh.catI l)) w):=by
 have hlen:=hl.len
 refine sha_c (Sh.catI l) (some ⟨g,o,none⟩) cs.length c (Sh.lenI l) (Sh.offI l) rfl (Sh.offI_mono l) (by rw [hlen];unfold Sh.offI;rw [List.take_length]) hn hk (fun j _=>Sh.catI_r l hr j) w (fun _=>⟨g,o,rfl,hg,by simp,fun i hi=>?_⟩) hS hB
 obtain ⟨u,x,h1,h2,p,ci,rfl,h3,h4⟩:=hl.get i hi
 obtain ⟨k1,k2⟩:=Sh.offI_step l i x h2
 have e:Sh.offI l (i+1)-Sh.offI l i=x.1:=by omega
 refine ⟨p,ci,by rw [e];exact hcell i _ h1,by rw [e];exact h3,?_⟩
 rw [e]
 intro h0
 obtain ⟨g1,o1,e1,m1,m2,m3⟩:=h4 h0
 refine ⟨g1,o1,e1,m1,m2,fun j hj=>?_⟩
 rw [m3 j hj]
 dsimp only
 rw [k2 j hj]
def Sh.numI (l:Sh.Ps):Int:=Sc.leV (Sh.sumI (Sh.lenI l) (Sh.catI l)) 64 % LI
theorem reduce64 (g c:Nat) (f:Nat→Int) (hf:Sc.Byt f) (w:World) (hR:RowB w g 64 c f):Calls Tryz.prog 300 #[.slice (some ⟨g,0,none⟩) 64 c] w (PostBs 32 (Sc.byt (Sc.leV f 64 % LI)) w):=by
 have e:(fun j=>((toF f j).val:Int))=f:=funext fun j=>toF_val (hf j)
 have h:=reduce_c (some ⟨g,0,none⟩) 64 c (by decide) (toF f) w (by rw [e];exact fun _=>⟨g,0,rfl,hR.lt,fun j hj=>by rw [Nat.zero_add];exact hR.cell j hj⟩)
 rw [e] at h
 exact h
set_option maxRecDepth 20000 in
set_option maxHeartbeats 2000000 in
theorem number_c (u v:Value) (n:Nat) (f:Nat→Int) (cs:List Value) (l:Sh.Ps) (w:World) (hu:PV w u n f) (hv:Parts w v cs) (hl:PVs w cs l) (hr:Sh.BytI ((n,f)::l)) (hn:Sh.lenI ((n,f)::l)≤10000000) (hk:cs.length≤100000) (hS:ShP w) (hB:3<w.heap.size):Calls Tryz.prog 211 #[u,v] w (PostBs 32 (Sc.byt (Sh.numI ((n,f)::l))) w):=by
 have hcl:=Lib.hid (cloneP_c v cs hl.one (by omega) w hv)
 obtain ⟨p0,c0,rfl,_⟩:=id hu
 have hone:=hl.one
 replace hu:=Lib.hid hu
 replace hl:=Lib.hid hl
 replace hr:=Lib.hid hr
 replace hn:=Lib.hid hn
 replace hS:=Lib.hid hS
 replace hone:=Lib.hid hone
 clear hv
 go_enter Tryz.func211,Tryz.ntmps211
 go_wp2_with fail
 refine hcl.out.mono ?_
 rintro e w1 ⟨v1,rfl,hO1,hnil,hb1⟩
 clear hcl
 have ha:Below w1.heap.size w1 (w1.alloc (.cells #[.slice p0 n c0] 22)):=(Below.refl _ _).alloc (Nat.le_refl _) _
 have hb2:Below w.heap.size w (w1.alloc (.cells #[.slice p0 n c0] 22)):=hb1.trans (ha.mono hb1.size)
 have hfr:=Lib.hid (front_c w.heap.size v1 (.slice p0 n c0) cs hone.out rfl (by omega) (w1.alloc (.cells #[.slice p0 n c0] 22)) hb2.size (own_ext1 hO1 (Ext.below (S:=[]) ha) (fun _ _=>by simp)) hnil w1.heap.size (Blk.new _ _ _) (fun e=>by have:=(hO1.lt _ e).2;omega))
 replace hb2:=Lib.hid hb2
 clear ha hb1 hnil hO1
 go_wp2_with fail
 refine hfr.out.mono ?_
 rintro e w3 ⟨g3,c3,rfl,hB3,hlt3,hc3,hcell,hb3⟩
 clear hfr
 replace hb3:Below w.heap.size w w3:=hb2.out.trans hb3
 have hl3:PVs w3 (.slice p0 n c0::cs) ((n,f)::l):=⟨hu.out.below hb3,hl.out.below hb3⟩
 have hsz:=hb3.size
 have hsh:=Lib.hid (sha_l g3 0 c3 (.slice p0 n c0::cs) _ w3 hlt3 hcell hl3 hr.out hn.out (by simp;omega) (hS.out.below hb3 hB) (by omega))
 replace hb3:=Lib.hid hb3
 clear hb2 hcell hl3
 go_wp2_with fail
 refine hsh.out.mono ?_
 rintro e w4 ⟨g4,c4,rfl,hg4,hR4,hb4⟩
 clear hsh
 have hrd:=Lib.hid (reduce64 g4 c4 _ (Sh.sumI_byt _ _) w4 hR4)
 replace hb4:=hb3.out.trans (hb4.mono hsz)
 have hsz4:=hb4.size
 replace hb4:=Lib.hid hb4
 clear hR4 hb3
 go_wp2_with fail
 refine hrd.out.mono ?_
 rintro e w5 ⟨g5,c5,rfl,hg5,hR5,hb5⟩
 have hP:=Lib.hid (show PostBs 32 (Sc.byt (Sh.numI ((n,f)::l))) w (.returned (.slice (some ⟨g5,0,none⟩) 32 c5)) w5 from ⟨g5,c5,rfl,by omega,hR5,hb4.out.trans (hb5.mono hsz4)⟩)
 clear hR5 hb5 hrd hb4
 go_wp2_with fail
 go_returns
 exact hP.out
set_option maxRecDepth 20000 in
set_option maxHeartbeats 2000000 in
theorem how_c (u u2 v:Value) (n m:Nat) (f h:Nat→Int) (cs:List Value) (l:Sh.Ps) (w:World) (hu:PV w u n f) (hu2:PV w u2 m h) (hv:Parts w v cs) (hl:PVs w cs l) (hr:Sh.BytI ((n,f)::(m,h)::l)) (hn:Sh.lenI ((n,f)::(m,h)::l)≤10000000) (hk:cs.length≤90000) (hS:ShP w) (hB:3<w.heap.size):Calls Tryz.prog 166 #[u,u2,v] w (PostBs 32 (Sc.byt (Sh.numI ((n,f)::(m,h)::l))) w):=by
 have hcl:=Lib.hid (cloneP_c v cs hl.one (by omega) w hv)
 obtain ⟨p0,c0,rfl,_⟩:=id hu2
 have hone:=hl.one
 replace hu:=Lib.hid hu
 replace hu2:=Lib.hid hu2
 replace hl:=Lib.hid hl
 replace hr:=Lib.hid hr
 replace hn:=Lib.hid hn
 replace hS:=Lib.hid hS
 replace hone:=Lib.hid hone
 clear hv
 go_enter Tryz.func166,Tryz.ntmps166
 go_wp2_with fail
 refine hcl.out.mono ?_
 rintro e w1 ⟨v1,rfl,hO1,hnil,hb1⟩
 clear hcl
 have ha:Below w1.heap.size w1 (w1.alloc (.cells #[.slice p0 m c0] 22)):=(Below.refl _ _).alloc (Nat.le_refl _) _
 have hb2:Below w.heap.size w (w1.alloc (.cells #[.slice p0 m c0] 22)):=hb1.trans (ha.mono hb1.size)
 have hfr:=Lib.hid (front_c w.heap.size v1 (.slice p0 m c0) cs hone.out rfl (by omega) (w1.alloc (.cells #[.slice p0 m c0] 22)) hb2.size (own_ext1 hO1 (Ext.below (S:=[]) ha) (fun _ _=>by simp)) hnil w1.heap.size (Blk.new _ _ _) (fun e=>by have:=(hO1.lt _ e).2;omega))
 replace hb2:=Lib.hid hb2
 clear ha hb1 hnil hO1
 go_wp2_with fail
 refine hfr.out.mono ?_
 rintro e w3 ⟨g3,c3,rfl,hB3,hlt3,hc3,hcell,hb3⟩
 clear hfr
 replace hb3:Below w.heap.size w w3:=hb2.out.trans hb3
 have hl3:PVs w3 (.slice p0 m c0::cs) ((m,h)::l):=⟨hu2.out.below hb3,hl.out.below hb3⟩
 have hsz:=hb3.size
 have hnum:=Lib.hid (number_c u (.slice (some ⟨g3,0,none⟩) (List.length (.slice p0 m c0::cs)) c3) n f (.slice p0 m c0::cs) ((m,h)::l) w3 (hu.out.below hb3) (.inr ⟨g3,0,c3,rfl,by simp,hc3,hlt3,hcell⟩) hl3 hr.out hn.out (by simp;omega) (hS.out.below hb3 hB) (by omega))
 replace hb3:=Lib.hid hb3
 clear hb2 hcell hl3
 go_wp2_with fail
 refine hnum.out.mono ?_
 rintro e w5 ⟨g5,c5,rfl,hg5,hR5,hb5⟩
 have hP:=Lib.hid (show PostBs 32 (Sc.byt (Sh.numI ((n,f)::(m,h)::l))) w (.returned (.slice (some ⟨g5,0,none⟩) 32 c5)) w5 from ⟨g5,c5,rfl,by omega,hR5,hb3.out.trans (hb5.mono hsz)⟩)
 clear hR5 hb5 hnum hb3
 go_wp2_with fail
 go_returns
 exact hP.out
end Go.Proofs.YtnopjabcdloepaaGreatDoor
namespace Go.Proofs.YtnopjabcdloepaaGreatDoor
open Go Go.RowKit
def PostGw (w:World) (e:Ending) (w':World):Prop:=∃ g c,e=.returned (.slice (some ⟨g,0,none⟩) 0 c)∧w'.ownsRow w.heap.size 5 1 (.slice (some ⟨g,0,none⟩) 0 c) 0 []∧Below w.heap.size w w'
set_option maxRecDepth 20000 in
set_option maxHeartbeats 2000000 in
theorem grow_c (n:Nat) (h0:0<n) (hn:n≤10000000) (w:World):Calls Tryz.prog 296 #[.slice none 0 0,.int .i64 n] w (PostGw w):=by
 obtain ⟨i0,hi,hz0,hz1,hz2⟩:=info_parts u8_infoK
 have hr:=fun ty=>Lib.run_append_nil_zeros (P:=Tryz.prog) w 22 3 ty 5 i0 _ .i64 .i64 bs_underK int_under hi hz0 n h0 (by omega) (by omega) (by rw [hz2];omega)
 have hge:=grownCap_ge w n 0 5
 have hle:=grownCap_le_maxLen w n 0 5 (by unfold maxLen;omega)
 have hP:PostGw w (.returned (.slice (some ⟨w.heap.size,0,none⟩) 0 (grownCap w n 0 5))) (w.drew.alloc (.cells (Builtin.zeroCells (Value.int .u8 0).cells n++Builtin.zeroCells (Value.int .u8 0).cells (grownCap w n 0 5-n)) 5)) :=
  ⟨_,_,rfl,⟨rfl,.inr ⟨_,_,_,rfl,Nat.le_refl _,heap_alloc_new w.drew _,Nat.zero_le _,hle,by simp [Builtin.zeroCells,Value.cells];omega,by simp⟩⟩,(Below.refl _ w).drew.alloc (Nat.le_refl _) _⟩
 obtain ⟨G,hG⟩:∃ G,G=grownCap w n 0 5:=⟨_,rfl⟩
 obtain ⟨C,hC⟩:∃ C,C=Builtin.zeroCells (Value.int .u8 0).cells n++Builtin.zeroCells (Value.int .u8 0).cells (grownCap w n 0 5-n):=⟨_,rfl⟩
 rw [← hC] at hr hP
 rw [← hG] at hr hP hge hle
 clear hC hG
 replace hP:=Lib.hid hP
 have hs:=run_slHi (some ⟨w.heap.size,0,none⟩) n G 0 (Nat.zero_le _)
 rw [show ((0:Nat):Int)=0 from rfl] at hs
 have hn0:(0:Int)<(n:Int):=by omega
 have hn1:(n:Int)≤10000000:=by omega
 go_enter Tryz.func296,Tryz.ntmps296
 go_wp2_with (at_builtin;refine Lib.wpList_append_run _ rfl _ _ _ _ rfl _ _ rfl rfl _ _ (hr _) ?_)
 go_returns
 exact hP.out
set_option maxRecDepth 20000 in
set_option maxHeartbeats 2000000 in
theorem concat_c (g o c:Nat) (cs:List Value) (l:Sh.Ps) (w:World) (hg:g<w.heap.size) (hcell:∀ j u,cs[j]?=some u→w.cell? ⟨g,o+j,none⟩=some u) (hl:PVs w cs l) (h0:0<Sh.lenI l) (hn:Sh.lenI l≤10000000) (hk:cs.length≤1000000):Calls Tryz.prog 205 #[.slice (some ⟨g,o,none⟩) cs.length c] w (PostBs (Sh.lenI l) (Sh.catI l) w):=by
 have hlen:=hl.len
 obtain ⟨k,hkk⟩:∃ k,k=cs.length:=⟨_,rfl⟩
 have hend:Sh.offI l k=Sh.lenI l:=by rw [hkk,hlen];unfold Sh.offI;rw [List.take_length]
 have hoff:∀ i,i≤k→Sh.offI l i≤Sh.lenI l:=fun i hi=>by rw [← hend];exact off_le (Sh.offI_mono l) k hi
 rw [← hkk]
 have hk0:(0:Int)≤(k:Int):=by omega
 have hk1:(k:Int)≤1000000:=by omega
 have hgr:=Lib.hid (grow_c (Sh.lenI l) h0 hn w)
 have hc2:=Lib.hid (fun i (hi:i<k)=>(show ∃ p n ci,w.cell? ⟨g,o+i,none⟩=some (.slice p n ci)∧BX [] w p n (fun j=>Sh.catI l (Sh.offI l i+j))∧Sh.offI l (i+1)=Sh.offI l i+n from by
  obtain ⟨u,x,h1,h2,p,ci,rfl,h3,h4⟩:=hl.get i (by omega)
  obtain ⟨k1,k2⟩:=Sh.offI_step l i x h2
  refine ⟨p,x.1,ci,hcell i _ h1,fun hx=>?_,k1⟩
  obtain ⟨g1,o1,e1,m1,m2,m3⟩:=h4 hx
  refine ⟨g1,o1,e1,m1,m2,fun j hj=>?_⟩
  rw [m3 j hj]
  dsimp only
  rw [k2 j hj]))
 obtain ⟨N,hN⟩:∃ N,N=Sh.lenI l:=⟨_,rfl⟩
 rw [← hN] at hend hoff hgr h0 hn ⊢
 replace hend:=Lib.hid hend
 replace hoff:=Lib.hid hoff
 clear hcell hl hlen hN
 replace hkk:=Lib.hid hkk
 have hN0:(0:Int)<(N:Int):=by omega
 have hN1:(N:Int)≤10000000:=by omega
 go_enter Tryz.func205,Tryz.ntmps205
 go_wp2_with fail
 go_loopw [3,11] (fun s q wr=>∃ i:Nat,i≤k∧q=.int .i64 i∧s=.int .i64 (Sh.offI l i)∧w=wr) (fun _ q _=>(k-intOf q).toNat)
 case atStart=>exact ⟨0,by omega,rfl,rfl,rfl⟩
 case round =>
  obtain ⟨i,hi,rfl,rfl,rfl⟩:=hrel
  have hi0:(0:Int)≤(i:Int):=by omega
  have ho1:=hoff.out i hi
  by_cases hik:i=k
  ·subst hik
   rw [hend.out]
   go_wp2_with fail
   refine hgr.out.mono ?_
   rintro e w1 ⟨g1,c1,rfl,hO,hb⟩
   clear hgr
   have hsz:=hb.size
   have hO1:w1.ownsRow w.heap.size 5 1 (.slice (some ⟨g1,0,none⟩) 0 c1) (Sh.offI l 0) (cB (Sh.offI l 0) (Sh.catI l)):=hO
   replace hO1:=Lib.hid hO1
   replace hb:=Lib.hid hb
   clear hO
   go_wp2_with fail
   go_loopw [6,27] (fun v q wx=>∃ m:Nat,m≤i∧q=.int .i64 m∧wx.ownsRow w.heap.size 5 1 v (Sh.offI l m) (cB (Sh.offI l m) (Sh.catI l))∧Below w.heap.size w wx) (fun _ q _=>(i-intOf q).toNat)
   case atStart=>exact ⟨0,by omega,rfl,hO1.out,hb.out⟩
   case round =>
    clear hO1 hb hsz
    obtain ⟨m,hm,rfl,hO,hb⟩:=hrel
    have hm0:(0:Int)≤(m:Int):=by omega
    replace hO:=Lib.hid hO
    by_cases hmi:m=i
    ·subst hmi
     rw [hend.out] at hO
     obtain ⟨g2,c2,rfl,hB2,hR2⟩:=own_rowB hO.out h0
     have hP:=Lib.hid (show PostBs N (Sh.catI l) w (.returned (.slice (some ⟨g2,0,none⟩) N c2)) wr from ⟨g2,c2,rfl,hB2,hR2,hb⟩)
     clear hR2 hO hb
     go_wp2_with fail
     go_returns
     exact hP.out
    have hmi1:(m:Int)<(i:Int):=by omega
    obtain ⟨p,n,ci,u0,hbx,hst⟩:=hc2.out m (by omega)
    have ho2:=hoff.out (m+1) (by omega)
    rw [hst] at ho2
    have u1:=(hb.cell (p:=⟨g,o+m,none⟩) hg).trans u0
    have hbx2:=hbx.ext (Ext.below hb)
    have hwl:=hb.size
    have hbx3:BX [] wr p n (fun j=>Sh.catI l (0+Sh.offI l m+j)):=by rw [Nat.zero_add];exact hbx2
    have e0:(fun j=>Sh.catI l (0+j))=Sh.catI l:=funext fun j=>by rw [Nat.zero_add]
    rw [← e0] at hO
    replace hb:=Lib.hid hb
    replace hbx3:=Lib.hid hbx3
    clear hbx hbx2 u0
    replace hst:=Lib.hid hst
    replace e0:=Lib.hid e0
    go_wp2_with (at_builtin;refine wpList_appOB (T:=Sh.catI l) (q:=0) (n:=Sh.offI l m) (m:=n) rfl rfl rfl hO.out rfl hbx3.out.bat (by omega) hwl ?_;intro v5 w5 hO5 hg5 hob5;have hb5:Below w.heap.size w w5:=hb.out.grown hg5 hwl (fun k hk=>(hO.out.lt k hk).1);clear hg5 hob5)
    rw [e0.out] at hO5
    exact ⟨⟨m+1,by omega,by simp,by rw [hst.out];exact hO5,hb5⟩,by simp [intOf];omega⟩
  have hi1:(i:Int)<(k:Int):=by omega
  obtain ⟨p,n,ci,u0,_,hst⟩:=hc2.out i (by omega)
  have ho2:=hoff.out (i+1) (by omega)
  obtain ⟨a,ha⟩:∃ a,a=Sh.offI l i:=⟨_,rfl⟩
  rw [← ha] at ho1 hst ⊢
  rw [hst] at ho2
  have hst:=Lib.hid hst
  replace ha:=Lib.hid ha
  have ha0:(0:Int)≤(a:Int):=by omega
  have hn0:(0:Int)≤(n:Int):=by omega
  have han:(a:Int)+(n:Int)≤10000000:=by omega
  go_wp2_with fail
  exact ⟨⟨i+1,by omega,by simp,by rw [hst.out];simp,trivial⟩,by simp [intOf];omega⟩
end Go.Proofs.YtnopjabcdloepaaGreatDoor
