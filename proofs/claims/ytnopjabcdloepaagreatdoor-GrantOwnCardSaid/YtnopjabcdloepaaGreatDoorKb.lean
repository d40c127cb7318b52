import Derived.Test.YtnopjabcdloepaaGreatDoorKa
import Derived.Lib.ConvBytes
import Derived.Maps.AppendAt
import Derived.OwnWalk
namespace Go.Proofs.YtnopjabcdloepaaGreatDoor.Rc
open Go.RowKit
def DotsL (w:World) (p:Option Addr) (n:Nat) (ds:List Int):Prop:=ds.length=2*n∧DotsAt w p n (fun j=>ds.getD j 0)
theorem DotsL.below {w w':World} {p:Option Addr} {n:Nat} {ds:List Int} (h:DotsL w p n ds) (hb:Below w.heap.size w w'):DotsL w' p n ds:=⟨h.1,h.2.below hb⟩
def dL (xs:List Int):List Value:=xs.map (.int .i64 ·)
theorem dot_info:(Tryz.prog.info? 175).map (fun i=>(i.zero,i.size,i.bytes))=some (some (.agg #[.int .i64 0,.int .i64 0]),2,16):=by kernel_rfl
theorem ds_under:Tryz.prog.underlying 43=some (.slice 175):=by kernel_rfl
section
variable {ops:Array Oper} {rest:List Oper} {o:Oper} {a:Act} {w:World} {Q:Exit→Act→World→Prop}
end
set_option maxRecDepth 20000 in
set_option maxHeartbeats 4000000 in
theorem sameDots_c (p1 p2:Option Addr) (n1 c1 n2 c2:Nat) (xs ys:List Int) (hn:n1≤1000000) (hn2:n2≤1000000) (w:World) (hX:DotsL w p1 n1 xs) (hY:DotsL w p2 n2 ys) :
  Calls Tryz.prog 116 #[.slice p1 n1 c1,.slice p2 n2 c2] w fun e w'=>e=.returned (.bool (eqL xs ys))∧Below w.heap.size w w':=by
 have h1:=hX.1
 have h2:=hY.1
 have hne:n1≠n2→eqL xs ys=false:=fun h=>decide_eq_false (fun e=>h (by rw [e] at h1;omega))
 have hyes:n1=n2→(∀ j,j<n1→xs.getD (j*2) 0=ys.getD (j*2) 0∧xs.getD (j*2+1) 0=ys.getD (j*2+1) 0)→eqL xs ys=true:=fun e h=>decide_eq_true (ext_getD (by omega) (fun j hj=>by
  have hq:=h (j / 2) (by omega)
  rcases Nat.mod_two_eq_zero_or_one j with hm | hm
  ·rw [show j=j / 2*2 by omega];exact hq.1
  rw [show j=j / 2*2+1 by omega];exact hq.2))
 have hno:∀ j,xs.getD j 0≠ys.getD j 0→eqL xs ys=false:=fun j h=>decide_eq_false (fun e=>h (by rw [e]))
 have hXc:0<n1→∃ g o,p1=some ⟨g,o,none⟩∧g<w.heap.size∧∀ j,j<2*n1→w.cell? ⟨g,o+j,none⟩=some (.int .i64 (xs.getD j 0)):=fun h=>hX.2 (by omega)
 have hYc:0<n2→∃ g o,p2=some ⟨g,o,none⟩∧g<w.heap.size∧∀ j,j<2*n2→w.cell? ⟨g,o+j,none⟩=some (.int .i64 (ys.getD j 0)):=fun h=>hY.2 (by omega)
 generalize eqL xs ys=E at *
 obtain ⟨b1,hb1⟩:∃ b:Nat→Int,b=fun j=>xs.getD j 0:=⟨_,rfl⟩
 obtain ⟨b2,hb2⟩:∃ b:Nat→Int,b=fun j=>ys.getD j 0:=⟨_,rfl⟩
 replace hyes:n1=n2→(∀ j,j<n1→b1 (j*2)=b2 (j*2)∧b1 (j*2+1)=b2 (j*2+1))→E=true:=by rw [hb1,hb2];exact hyes
 replace hno:∀ j,b1 j≠b2 j→E=false:=by rw [hb1,hb2];exact hno
 replace hXc:0<n1→∃ g o,p1=some ⟨g,o,none⟩∧g<w.heap.size∧∀ j,j<2*n1→w.cell? ⟨g,o+j,none⟩=some (.int .i64 (b1 j)):=by rw [hb1];exact hXc
 replace hYc:0<n2→∃ g o,p2=some ⟨g,o,none⟩∧g<w.heap.size∧∀ j,j<2*n2→w.cell? ⟨g,o+j,none⟩=some (.int .i64 (b2 j)):=by rw [hb2];exact hYc
 clear hX hY h1 h2 hb1 hb2
 replace hyes:=Lib.hid hyes
 replace hno:=Lib.hid hno
 replace hne:=Lib.hid hne
 replace hXc:=Lib.hid hXc
 replace hYc:=Lib.hid hYc
 go_enter Tryz.func116,Tryz.ntmps116
 by_cases hn:n1=n2
 ·subst hn
  go_wp2
  go_loopw [5] (fun i wr=>∃ m:Nat,m≤n1∧i=.int .i64 m∧(∀ j,j<m→b1 (j*2)=b2 (j*2)∧b1 (j*2+1)=b2 (j*2+1))∧Below w.heap.size w wr) (fun i _=>(n1-intOf i).toNat)
  case atStart=>exact ⟨0,by omega,rfl,fun j h=>absurd h (by omega),Below.refl _ _⟩
  case round =>
   obtain ⟨m,hm,hi,hI,hb⟩:=hrel
   subst hi
   by_cases hmn:m=n1
   ·subst hmn
    have he:=hyes.out (by trivial) hI
    replace he:=Lib.hid he
    clear hm hI
    go_wp2
    go_returns
    exact ⟨by rw [he.out];rfl,hb⟩
   have hm':(m:Int)<n1:=by omega
   have hm0:(0:Int)≤(m:Int):=by omega
   have hn0:(n1:Int)≤1000000:=by omega
   obtain ⟨g1,o1,rfl,hg1,hB1⟩:=hXc.out (by omega)
   obtain ⟨g2,o2,rfl,hg2,hB2⟩:=hYc.out (by omega)
   have ca:=(hb.cell (p:=⟨g1,o1+m*2,none⟩) hg1).trans (hB1 (m*2) (by omega))
   have cb:=(hb.cell (p:=⟨g2,o2+m*2,none⟩) hg2).trans (hB2 (m*2) (by omega))
   have ca1:=(hb.cell (p:=⟨g1,o1+(m*2+1),none⟩) hg1).trans (hB1 (m*2+1) (by omega))
   have cb1:=(hb.cell (p:=⟨g2,o2+(m*2+1),none⟩) hg2).trans (hB2 (m*2+1) (by omega))
   rw [← Nat.add_assoc] at ca1 cb1
   have hm2:m+1≤n1:=by omega
   clear hB1 hB2 hXc hYc
   have hIh:=Lib.hid hI
   clear hI
   have hf:=hno.out (m*2)
   have hf1:=hno.out (m*2+1)
   replace hf:=Lib.hid hf
   replace hf1:=Lib.hid hf1
   have hI2:b1 (m*2)=b2 (m*2)→b1 (m*2+1)=b2 (m*2+1)→∀ j,j<m+1→b1 (j*2)=b2 (j*2)∧b1 (j*2+1)=b2 (j*2+1):=fun h1 h2 j hj=>by
    by_cases e:j=m
    ·rw [e];exact ⟨h1,h2⟩
    exact hIh.out j (by omega)
   replace hI2:=Lib.hid hI2
   clear hno hyes hne
   generalize b1 (m*2)=x at *
   generalize b1 (m*2+1)=y at *
   generalize b2 (m*2)=x' at *
   generalize b2 (m*2+1)=y' at *
   by_cases hx:x=x'
   ·by_cases hy:y=y'
    ·subst hx hy
     have hI3:=Lib.hid (hI2.out rfl rfl)
     clear hI2 hf hf1
     go_wp2
     go_region
     go_wp2
     exact ⟨⟨m+1,hm2,rfl,hI3.out,hb.drew⟩,by simp [intOf];omega⟩
    have hE:=Lib.hid (hf1.out hy)
    subst hx
    clear hI2 hf hf1
    go_wp2
    go_region
    go_wp2
    go_returns
    exact ⟨by rw [hE.out];rfl,hb.drew⟩
   have hE:=Lib.hid (hf.out hx)
   clear hI2 hf hf1
   go_wp2
   go_region
   go_wp2
   go_returns
   exact ⟨by rw [hE.out];rfl,hb.drew⟩
 have hn3:((n1:Int)==(n2:Int))=false:=by simp;omega
 have hf:=Lib.hid (hne.out hn)
 go_wp2
 go_returns
 exact ⟨by rw [hf.out];rfl,Below.refl _ _⟩
end Go.Proofs.YtnopjabcdloepaaGreatDoor.Rc

namespace Go.Proofs.YtnopjabcdloepaaGreatDoor.Rc
open Go.RowKit
theorem blk7 {w:World} {g:Nat} {t:TypeId} {x0 x1 x2 x3 x4 x5 x6:Value} (h:Blk w g t #[x0,x1,x2,x3,x4,x5,x6]):w.cell? ⟨g,0,none⟩=some x0∧w.cell? ⟨g,1,none⟩=some x1∧w.cell? ⟨g,2,none⟩=some x2∧w.cell? ⟨g,3,none⟩=some x3∧w.cell? ⟨g,4,none⟩=some x4∧w.cell? ⟨g,5,none⟩=some x5∧w.cell? ⟨g,6,none⟩=some x6 :=
 ⟨h.cell 0,h.cell 1,h.cell 2,h.cell 3,h.cell 4,h.cell 5,h.cell 6⟩
set_option maxHeartbeats 1000000 in
theorem dot_c (k:ByteArray) (cl sq:Int) (p1:Option Addr) (n1 c1:Nat) (gone:Bool) (p2:Option Addr) (n2 c2:Nat) (p3:Option Addr) (n3 c3:Nat) (w:World):Calls Tryz.prog 209 #[.agg #[.string k,.int .i64 cl,.int .i64 sq,.slice p1 n1 c1,.bool gone,.slice p2 n2 c2,.slice p3 n3 c3]] w fun e w'=>e=.returned (.agg #[.int .i64 cl,.int .i64 sq])∧Below w.heap.size w w':=by
 go_enter Tryz.func209,Tryz.ntmps209
 go_wp2
 go_returns
 exact ⟨rfl,by go_grown⟩
def dD (ds:List Int) (j:Nat):Int:=ds.getD j 0
def shB (K:Nat) (cl sq:Int) (n1:Nat) (ds:List Int) (gone:Bool) (n2:Nat):Bool:=decide (1≤K∧K≤64)&&(okD cl sq&&(rightD n1 (dD ds)&&(!hasV n1 (dD ds) cl sq&&(decide (n2≤1024)&&(!gone||decide (n2=0))))))
def dot1 (cl sq:Int) (j:Nat):Int:=if j=0 then cl else sq
theorem right1 (cl sq:Int):rightD 1 (dot1 cl sq)=okD cl sq:=by
 unfold rightD RightD
 cases h:okD cl sq
 ·exact decide_eq_false (fun hh=>by have:=(hh 0 (by decide)).1;rw [show okD (dot1 cl sq (0*2)) (dot1 cl sq (0*2+1))=okD cl sq from rfl,h] at this;cases this)
 exact decide_eq_true (fun i hi=>by
  obtain rfl:i=0:=by omega
  exact ⟨h,fun h=>absurd h (by decide)⟩)
theorem dots1 {w:World} {g:Nat} {cl sq:Int} (h:Blk w g 175 #[.int .i64 cl,.int .i64 sq]):DotsAt w (some ⟨g,0,none⟩) 1 (dot1 cl sq):=fun _=>⟨g,0,rfl,h.lt,fun j hj=>by
 have:j=0∨j=1:=by omega
 rcases this with rfl | rfl
 ·exact h.cell 0
 exact h.cell 1⟩
set_option maxRecDepth 20000 in
set_option maxHeartbeats 8000000 in
theorem shaped_c (k:ByteArray) (cl sq:Int) (p1:Option Addr) (n1 c1:Nat) (gone:Bool) (p2:Option Addr) (n2 c2:Nat) (p3:Option Addr) (n3 c3:Nat) (ds:List Int) (hn1:n1≤1000000) (w:World) (hD:DotsL w p1 n1 ds) :
  Calls Tryz.prog 112 #[.agg #[.string k,.int .i64 cl,.int .i64 sq,.slice p1 n1 c1,.bool gone,.slice p2 n2 c2,.slice p3 n3 c3]] w fun e w'=>e=.returned (.bool (shB k.size cl sq n1 ds gone n2))∧Below w.heap.size w w':=by
 obtain ⟨E,hE⟩:∃ E,E=shB k.size cl sq n1 ds gone n2:=⟨_,rfl⟩
 rw [← hE]
 unfold shB at hE
 have hdot:=dot_c k cl sq p1 n1 c1 gone p2 n2 c2 p3 n3 c3
 have hr1:=fun w' hb=>vright_c p1 n1 c1 (dD ds) hn1 w' (hD.2.below (w:=w) (w':=w') hb)
 have hh:=fun w' hb=>vhas_c p1 n1 c1 (dD ds) cl sq hn1 w' (hD.2.below (w:=w) (w':=w') hb)
 have hR1:=fun g w' hG=>vright_c (some ⟨g,0,none⟩) 1 1 (dot1 cl sq) (by decide) w' (dots1 (w:=w') (g:=g) (cl:=cl) (sq:=sq) hG)
 rw [right1] at hR1
 replace hdot:=Lib.hid hdot
 replace hr1:=Lib.hid hr1
 replace hh:=Lib.hid hh
 replace hR1:=Lib.hid hR1
 replace hE:=Lib.hid hE
 clear hD
 go_enter Tryz.func112,Tryz.ntmps112
 by_cases hk0:k.size<1
 ·have hk1:(k.size:Int)<1:=by omega
  have hf:E=false:=by rw [hE.out,decide_eq_false (by omega),Bool.false_and]
  replace hf:=Lib.hid hf
  clear hE hk0
  go_wp2
  go_returns
  exact ⟨by rw [hf.out];rfl,by go_grown⟩
 by_cases hk2:64<k.size
 ·have hk1:¬ (k.size:Int)<1:=by omega
  have hk3:64<(k.size:Int):=by omega
  have hf:E=false:=by rw [hE.out,decide_eq_false (by omega),Bool.false_and]
  replace hf:=Lib.hid hf
  clear hE hk0 hk2
  go_wp2
  go_returns
  exact ⟨by rw [hf.out];rfl,by go_grown⟩
 have hk1:¬ (k.size:Int)<1:=by omega
 have hk3:¬ 64<(k.size:Int):=by omega
 replace hE:E=(okD cl sq&&(rightD n1 (dD ds)&&(!hasV n1 (dD ds) cl sq&&(decide (n2≤1024)&&(!gone||decide (n2=0)))))):=by
  rw [hE.out,decide_eq_true (show 1≤k.size∧k.size≤64 from ⟨by omega,by omega⟩),Bool.true_and]
 replace hE:=Lib.hid hE
 clear hk0 hk2
 go_wp2_with fail
 refine calls_at (fun W0 hW=>?_)
 have hG:Blk W0 w.heap.size 155 #[.string k,.int .i64 cl,.int .i64 sq,.slice p1 n1 c1,.bool gone,.slice p2 n2 c2,.slice p3 n3 c3]:=by rw [hW];exact Blk.new _ _ _
 have hb0:Below w.heap.size w W0:=by rw [hW];exact (Below.refl _ _).alloc (Nat.le_refl _) _
 clear hW hk1 hk3
 refine (hdot.out _).mono ?_
 rintro e w1 ⟨rfl,hb⟩
 replace hG:=hG.below hb
 replace hb0:=hb0.trans (hb.mono hb0.size)
 clear hb
 go_wp2_with fail
 refine calls_at (fun W1 hW=>?_)
 have hD1:Blk W1 w1.heap.size 175 #[.int .i64 cl,.int .i64 sq]:=by rw [hW];exact Blk.new _ _ _
 replace hG:Blk W1 w.heap.size 155 #[.string k,.int .i64 cl,.int .i64 sq,.slice p1 n1 c1,.bool gone,.slice p2 n2 c2,.slice p3 n3 c3]:=by rw [hW];exact hG.alloc _
 replace hb0:Below w.heap.size w W1:=by rw [hW];exact hb0.alloc hb0.size _
 clear hW
 refine (hR1.out _ _ hD1).mono ?_
 rintro e w2 ⟨rfl,hb⟩
 replace hG:=hG.below hb
 replace hb0:=hb0.trans (hb.mono hb0.size)
 clear hb
 clear hD1 hR1
 cases ho:okD cl sq
 ·rw [ho] at hE
  have hf:E=false:=by rw [hE.out,Bool.false_and]
  replace hf:=Lib.hid hf
  clear hE
  go_wp2
  go_returns
  exact ⟨by rw [hf.out];rfl,hb0⟩
 rw [ho,Bool.true_and] at hE
 clear ho
 obtain ⟨y0,y1,y2,y3,y4,y5,y6⟩:=blk7 hG
 go_wp2_with fail
 clear y0 y1 y2 y3 y4 y5 y6
 refine (hr1.out _ hb0).mono ?_
 rintro e w3 ⟨rfl,hb⟩
 replace hG:=hG.below hb
 replace hb0:=hb0.trans (hb.mono hb0.size)
 clear hb
 clear hr1
 cases hr:rightD n1 (dD ds)
 ·rw [hr] at hE
  have hf:E=false:=by rw [hE.out,Bool.false_and]
  replace hf:=Lib.hid hf
  clear hE
  go_wp2
  go_returns
  exact ⟨by rw [hf.out];rfl,hb0⟩
 rw [hr,Bool.true_and] at hE
 clear hr
 replace hG:=hG.drew
 replace hb0:=hb0.drew
 go_wp2
 go_region_held3 (fun w'=>w'.cell? ⟨w.heap.size,0,none⟩=some (.string k)∧w'.cell? ⟨w.heap.size,1,none⟩=some (.int .i64 cl)∧w'.cell? ⟨w.heap.size,2,none⟩=some (.int .i64 sq)∧w'.cell? ⟨w.heap.size,3,none⟩=some (.slice p1 n1 c1)∧w'.cell? ⟨w.heap.size,4,none⟩=some (.bool gone)∧w'.cell? ⟨w.heap.size,5,none⟩=some (.slice p2 n2 c2)∧w'.cell? ⟨w.heap.size,6,none⟩=some (.slice p3 n3 c3)) (first | exact blk7 hG5 | exact blk7 hG4 | exact blk7 hG) (first | (go_at_call 209;refine (hdot.out _).mono ?_;rintro q w4 ⟨rfl,hb4⟩;have hG4:=hG.below hb4;have hb04:=hb0.trans (hb4.mono hb0.size);clear hdot hG hb0 hb4) | (go_at_call 210;refine (hh.out _ hb04).mono ?_;rintro q w5 ⟨rfl,hb5⟩;have hG5:=hG4.below hb5;have hb05:=hb04.trans (hb5.mono hb04.size);clear hh hG4 hb04 hb5))
 cases hv:hasV n1 (dD ds) cl sq
 ·rw [hv,Bool.not_false,Bool.true_and] at hE
  clear hv
  obtain ⟨y0,y1,y2,y3,y4,y5,y6⟩:=blk7 hG5
  by_cases hn:n2≤1024
  ·have hn3:(n2:Int)≤1024:=by omega
   rw [decide_eq_true hn,Bool.true_and] at hE
   cases gone
   ·have hf:E=true:=hE.out
    replace hf:=Lib.hid hf
    clear hE
    go_wp2
    go_returns
    exact ⟨by rw [hf.out];rfl,hb05⟩
   have hf:E=decide (n2=0):=hE.out
   by_cases hz:n2=0
   ·rw [decide_eq_true hz] at hf
    subst hz
    replace hf:=Lib.hid hf
    clear hE
    go_wp2
    go_returns
    exact ⟨by rw [hf.out];rfl,hb05⟩
   rw [decide_eq_false hz] at hf
   have hz3:((n2:Int)==0)=false:=by simp;omega
   replace hf:=Lib.hid hf
   clear hE
   go_wp2
   go_returns
   exact ⟨by rw [hf.out];rfl,hb05⟩
  have hn3:¬ (n2:Int)≤1024:=by omega
  have hf:E=false:=by rw [hE.out,decide_eq_false hn,Bool.false_and]
  replace hf:=Lib.hid hf
  clear hE
  go_wp2
  go_returns
  exact ⟨by rw [hf.out];rfl,hb05⟩
 rw [hv] at hE
 have hf:E=false:=by rw [hE.out,Bool.not_true,Bool.false_and]
 replace hf:=Lib.hid hf
 clear hE
 go_wp2
 go_returns
 exact ⟨by rw [hf.out];rfl,hb05⟩
end Go.Proofs.YtnopjabcdloepaaGreatDoor.Rc

namespace Go.Proofs.YtnopjabcdloepaaGreatDoor.Rc
open Go.RowKit
def SlL (xs:List Int):Value→World→Prop:=fun v w=>∃ p n c,v=.slice p n c∧n=xs.length∧BytesL w p xs
theorem sta_slL (xs:List Int):Sta (SlL xs):=fun _ _ _ ⟨p,n,c,h1,h2,h3⟩ hb=>⟨p,n,c,h1,h2,h3.below hb⟩
def PX (w:World) (v:Value) (q:Option Addr) (xs:List Int):Prop:=0<xs.length→∃ g o,q=some ⟨g,o,none⟩∧g<w.heap.size∧v.ownBlock≠some g∧∀ j,j<xs.length→w.cell? ⟨g,o+j,none⟩=some (.int .u8 (xs.getD j 0))
theorem PX.bytes {w:World} {v:Value} {q:Option Addr} {xs:List Int} (h:PX w v q xs):BytesL w q xs:=fun hm=>by
 obtain ⟨g,o,e,hg,_,hc⟩:=h hm
 exact ⟨g,o,e,hg,hc⟩
theorem PX.grown {w w':World} {v v':Value} {q:Option Addr} {xs:List Int} (h:PX w v q xs) (hg:w.grownBy w' v.ownBlock) (hv:v'.ownBlock=v.ownBlock∨v'.ownBlock=some w.heap.size):PX w' v' q xs:=fun hm=>by
 obtain ⟨g,o,e,hlt,hne,hc⟩:=h hm
 refine ⟨g,o,e,Nat.lt_of_lt_of_le hlt hg.size,?_,fun j hj=>(hg.cell_far ⟨g,o+j,none⟩ hlt (fun h=>hne h.symm)).trans (hc j hj)⟩
 rcases hv with hv | hv
 ·rw [hv];exact hne
 rw [hv];intro h;injection h with h;omega
def POwn (B:Nat) (w:World) (v:Value) (ps:List (List Int)):Prop:=∃ cells:List Value,w.ownsRow B 22 1 v ps.length cells∧∀ i,i<ps.length→∃ q n c,cells[i]?=some (.slice q n c)∧n=(ps.getD i []).length∧PX w v q (ps.getD i [])
theorem below_kept {w w':World} {base:Nat} {e:TypeId} {size:Nat} {v:Value} {n:Nat} {xs:List Value} (h:w.ownsRow base e size v n xs) (hb:Below w.heap.size w w'):w'.ownsRow base e size v n xs:=by
 refine ⟨h.1,?_⟩
 rcases h.2 with hn | ⟨g,cap,cur,rfl,hg,hgg,rest⟩
 ·exact .inl hn
 exact .inr ⟨g,cap,cur,rfl,hg,(hb.block g (Array.getElem?_eq_some_iff.1 hgg).1).trans hgg,rest⟩
theorem POwn.below {B:Nat} {w w':World} {v:Value} {ps:List (List Int)} (h:POwn B w v ps) (hb:Below w.heap.size w w'):POwn B w' v ps:=by
 obtain ⟨cells,h1,h2⟩:=h
 refine ⟨cells,below_kept h1 hb,fun i hi=>?_⟩
 obtain ⟨q,n,c,h3,h4,h5⟩:=h2 i hi
 refine ⟨q,n,c,h3,h4,fun hm=>?_⟩
 obtain ⟨g,o,e,hlt,hne,hc⟩:=h5 hm
 exact ⟨g,o,e,Nat.lt_of_lt_of_le hlt hb.size,hne,fun j hj=>(hb.cell (p:=⟨g,o+j,none⟩) hlt).trans (hc j hj)⟩
theorem POwn.parts {B:Nat} {w:World} {g n c:Nat} {ps:List (List Int)} (h:POwn B w (.slice (some ⟨g,0,none⟩) n c) ps) (hn:n=ps.length):PartsAt w g 0 ps:=by
 obtain ⟨cells,h1,h2⟩:=h
 have hg:=h1.lt g rfl
 refine ⟨hg.2,fun i hi=>?_⟩
 obtain ⟨q,m,c',h3,h4,h5⟩:=h2 i hi
 refine ⟨q,m,c',?_,h4,h5.bytes⟩
 rw [← hn] at h1
 rw [Nat.zero_add,h1.cellAt i (by omega),h3]
theorem POwn.app2 {B:Nat} {w w':World} {v v':Value} {ps:List (List Int)} {q1 q2:Option Addr} {n1 n2 c1 c2:Nat} {x1 x2:List Int} (h:∃ cells,w.ownsRow B 22 1 v ps.length cells∧(∀ i,i<ps.length→∃ q n c,cells[i]?=some (.slice q n c)∧n=(ps.getD i []).length∧PX w v q (ps.getD i []))∧w'.ownsRow B 22 1 v' (ps.length+2) (cells++[.slice q1 n1 c1,.slice q2 n2 c2]))
  (hg:w.grownBy w' v.ownBlock) (hv:v'.ownBlock=v.ownBlock∨v'.ownBlock=some w.heap.size) (e1:n1=x1.length) (e2:n2=x2.length) (h1:PX w v q1 x1) (h2:PX w v q2 x2):POwn B w' v' (ps++[x1,x2]):=by
 obtain ⟨cells,ho,hc,ho'⟩:=h
 have hl:cells.length=ps.length:=by have:=ho.1;omega
 refine ⟨_,by rw [List.length_append];exact ho',fun i hi=>?_⟩
 rw [List.length_append] at hi
 simp only [List.length_cons,List.length_nil] at hi
 rcases Nat.lt_or_ge i ps.length with h | h
 ·obtain ⟨q,n,c,h3,h4,h5⟩:=hc i h
  have hgd:(ps++[x1,x2]).getD i []=ps.getD i []:=by simp [List.getElem?_append,h]
  rw [hgd]
  exact ⟨q,n,c,by rw [List.getElem?_append_left (by omega)];exact h3,h4,h5.grown hg hv⟩
 have:i=ps.length∨i=ps.length+1:=by omega
 rcases this with rfl | rfl
 ·have hgd:(ps++[x1,x2]).getD ps.length []=x1:=by simp
  rw [hgd]
  exact ⟨q1,n1,c1,by rw [List.getElem?_append_right (by omega),hl];simp,e1,h1.grown hg hv⟩
 have hgd:(ps++[x1,x2]).getD (ps.length+1) []=x2:=by simp
 rw [hgd]
 exact ⟨q2,n2,c2,by rw [List.getElem?_append_right (by omega),hl];simp,e2,h2.grown hg hv⟩
theorem pown5 {B:Nat} {w:World} {v0 v1 v2 v3 v4:Value} {x0 x1 x2 x3 x4:List Int} (hB:B≤w.heap.size) (h0:SlL x0 v0 w) (h1:SlL x1 v1 w) (h2:SlL x2 v2 w) (h3:SlL x3 v3 w) (h4:SlL x4 v4 w) :
  POwn B (w.alloc (.cells #[v0,v1,v2,v3,v4] 22)) (.slice (some ⟨w.heap.size,0,none⟩) 5 5) [x0,x1,x2,x3,x4]:=by
 have hx:∀ {x v},SlL x v w→∃ q n c,v=.slice q n c∧n=x.length∧PX (w.alloc (.cells #[v0,v1,v2,v3,v4] 22)) (.slice (some ⟨w.heap.size,0,none⟩) 5 5) q x:=fun {x v} ⟨q,n,c,e,en,hb⟩=>⟨q,n,c,e,en,fun hm=>by
  obtain ⟨g,o,e2,hg,hc⟩:=hb hm
  have hbl:Below w.heap.size w (w.alloc (.cells #[v0,v1,v2,v3,v4] 22)):=(Below.refl _ _).alloc (Nat.le_refl _) _
  exact ⟨g,o,e2,Nat.lt_of_lt_of_le hg hbl.size,by show some w.heap.size≠some g;intro h;injection h with h;omega,fun j hj=>(hbl.cell (p:=⟨g,o+j,none⟩) hg).trans (hc j hj)⟩⟩
 refine ⟨[v0,v1,v2,v3,v4],⟨rfl,.inr ⟨w.heap.size,5,_,rfl,hB,heap_alloc_new w _,Nat.le_refl _,by unfold maxLen;decide,rfl,rfl⟩⟩,fun i hi=>?_⟩
 simp only [List.length_cons,List.length_nil] at hi
 have:i=0∨i=1∨i=2∨i=3∨i=4:=by omega
 rcases this with rfl | rfl | rfl | rfl | rfl
 ·obtain ⟨q,n,c,e,en,h⟩:=hx h0;exact ⟨q,n,c,congrArg some e,en,h⟩
 ·obtain ⟨q,n,c,e,en,h⟩:=hx h1;exact ⟨q,n,c,congrArg some e,en,h⟩
 ·obtain ⟨q,n,c,e,en,h⟩:=hx h2;exact ⟨q,n,c,congrArg some e,en,h⟩
 ·obtain ⟨q,n,c,e,en,h⟩:=hx h3;exact ⟨q,n,c,congrArg some e,en,h⟩
 obtain ⟨q,n,c,e,en,h⟩:=hx h4;exact ⟨q,n,c,congrArg some e,en,h⟩
def PtL (B:Nat) (ps:List (List Int)):Value→World→Prop:=fun v w=>∃ g,v=.slice (some ⟨g,0,none⟩) 5 5∧POwn B w (.slice (some ⟨g,0,none⟩) 5 5) ps
theorem sta_ptL (B:Nat) (ps:List (List Int)):Sta (PtL B ps):=fun _ _ _ ⟨g,h1,h2⟩ hb=>⟨g,h1,h2.below hb⟩
def keyL (k:ByteArray):List Int:=k.data.toList.map fun b=>(b.toNat:Int)
theorem keyL_len (k:ByteArray):(keyL k).length=k.size:=by simp [keyL]
theorem conv_below (w:World) (k:ByteArray):Below w.heap.size w (Lib.bytesWorld w 5 k):=⟨rfl,rfl,rfl,by rw [Lib.bytesWorld_size];omega,fun j hj=>Lib.bytesWorld_at_old w _ k j hj⟩
theorem conv_sl (w:World) (k:ByteArray) (c:Nat):SlL (keyL k) (.slice (some ⟨w.heap.size,0,none⟩) k.size c) (Lib.bytesWorld w 5 k) :=
 ⟨_,_,_,rfl,(keyL_len k).symm,fun _=>⟨_,_,rfl,by rw [Lib.bytesWorld_size];omega,fun j hj=>by
  rw [keyL_len] at hj
  rw [Nat.zero_add,Lib.bytesWorld_cell w _ k j hj]
  have hj2:j<k.data.size:=hj
  simp [keyL,List.getD_eq_getElem?_getD,Array.getElem?_eq_getElem hj2]⟩⟩
theorem str_under:Tryz.prog.underlying 9=some .string:=by kernel_rfl
theorem u8_under:Tryz.prog.underlying 5=some (.int .u8):=by kernel_rfl
theorem conv_run (k:ByteArray) (w:World):(convert 9 22 (.string k)).run Tryz.prog w=.ok (.slice (some ⟨w.heap.size,0,none⟩) k.size (grownCap w k.size 0 5)) (Lib.bytesWorld w 5 k) :=
 Lib.run_convert_string_bytes w _ _ _ k str_under bs_under u8_under
def lenL (xs:List Int):List Int:=numL (xs.length:Nat)++xs
theorem bytes_l (p:Option Addr) (n c:Nat) (xs:List Int) (hn:n=xs.length) (hn2:n≤1000000) (w:World) (hB:BytesL w p xs):Calls Tryz.prog 216 #[.slice p n c] w (PostL (lenL xs) w):=by
 have:=bytes_c p n c xs hn hn2 w hB
 unfold lenL
 rw [← hn]
 exact this
end Go.Proofs.YtnopjabcdloepaaGreatDoor.Rc

namespace Go.Proofs.YtnopjabcdloepaaGreatDoor.Rc
open Go.RowKit
theorem one_new (w:World) (x:Int):BytesL (w.alloc (.cells #[.int .u8 x] 5)) (some ⟨w.heap.size,0,none⟩) [x]:=fun _=>⟨_,_,rfl,by simp,fun j hj=>by
 have:j=0:=by simpa using hj
 subst this
 exact (Blk.new w 5 #[.int .u8 x]).cell 0⟩
def txL (k:ByteArray) (cl sq:Int) (p1:Option Addr) (n1 c1 B0 H:Nat):List (Value→World→Prop):=[
 SlL ([1]),
 Eq1 (.pointer (some ⟨H,0,none⟩)),
 Eq1 (.pointer (some ⟨H,0,none⟩)),
 Eq1 (.string k),
 SlL (keyL k),
 SlL (lenL (keyL k)),
 Eq1 (.pointer (some ⟨H,0,none⟩)),
 Eq1 (.pointer (some ⟨H,1,none⟩)),
 Eq1 (.int .i64 cl),
 SlL (numL cl),
 Eq1 (.pointer (some ⟨H,0,none⟩)),
 Eq1 (.pointer (some ⟨H,2,none⟩)),
 Eq1 (.int .i64 sq),
 SlL (numL sq),
 Eq1 (.pointer (some ⟨H,0,none⟩)),
 Eq1 (.pointer (some ⟨H,3,none⟩)),
 Eq1 (.slice p1 n1 c1),
 Eq1 (.int .i64 n1),
 SlL (numL (n1:Nat)),
 PtL B0 ([[1],lenL (keyL k),numL cl,numL sq,numL (n1:Nat)]),
 PtL B0 ([[1],lenL (keyL k),numL cl,numL sq,numL (n1:Nat)])]
theorem txS (k:ByteArray) (cl sq:Int) (p1:Option Addr) (n1 c1 B0 H:Nat):∀ j x' q q',(txL k cl sq p1 n1 c1 B0 H).getD j (fun _ _=>True) x' q→Below q.heap.size q q'→(txL k cl sq p1 n1 c1 B0 H).getD j (fun _ _=>True) x' q':=by
 refine sta_all _ ?_
 simp only [txL,List.mem_cons,forall_eq_or_imp,List.not_mem_nil,false_implies,implies_true,and_true]
 exact ⟨sta_slL _,sta_eq _,sta_eq _,sta_eq _,sta_slL _,sta_slL _,sta_eq _,sta_eq _,sta_eq _,sta_slL _,sta_eq _,sta_eq _,sta_eq _,sta_slL _,sta_eq _,sta_eq _,sta_eq _,sta_eq _,sta_slL _,sta_ptL _ _,sta_ptL _ _⟩
theorem bss_info:(Tryz.prog.info? 22).map (fun i=>(i.zero,i.size,i.bytes))=some (some (.slice none 0 0),1,24):=by kernel_rfl
theorem bss_under:Tryz.prog.underlying 42=some (.slice 22):=by kernel_rfl
theorem PX.below {w w':World} {v:Value} {q:Option Addr} {xs:List Int} (h:PX w v q xs) (hb:Below w.heap.size w w'):PX w' v q xs:=fun hm=>by
 obtain ⟨g,o,e,hlt,hne,hc⟩:=h hm
 exact ⟨g,o,e,Nat.lt_of_lt_of_le hlt hb.size,hne,fun j hj=>(hb.cell (p:=⟨g,o+j,none⟩) hlt).trans (hc j hj)⟩
theorem px_of {w:World} {v:Value} {q:Option Addr} {xs:List Int} (h:BytesL w q xs) (hne:∀ ad,q=some ad→v.ownBlock≠some ad.block):PX w v q xs:=fun hm=>by
 obtain ⟨g,o,e,hg,hc⟩:=h hm
 exact ⟨g,o,e,hg,hne _ e,hc⟩
theorem run_pown {B:Nat} {w:World} {v:Value} {ps:List (List Int)} {q1 q2:Option Addr} {n1 n2 c1 c2:Nat} {x1 x2:List Int} (ty:TypeId) (hP:POwn B w v ps) (hB:B≤w.heap.size) (h1:PX w v q1 x1) (h2:PX w v q2 x2) (e1:n1=x1.length) (e2:n2=x2.length) (hl:ps.length≤10000000) :
  ∃ g cap w',(Builtin.append_ #[42,42] ty #[v,.slice (some ⟨w.heap.size,0,none⟩) 2 2]).run Tryz.prog (w.alloc (.cells #[.slice q1 n1 c1,.slice q2 n2 c2] 22))=.ok (.slice (some ⟨g,0,none⟩) (ps.length+2) cap) w' ∧
   POwn B w' (.slice (some ⟨g,0,none⟩) (ps.length+2) cap) (ps++[x1,x2])∧w.grownBy w' v.ownBlock∧∀ k,v.ownBlock=some k→B≤k:=by
 obtain ⟨i,hi,hz,hs,hby⟩:=info_parts bss_info
 obtain ⟨cells,ho,hc⟩:=hP
 have hbl:Below w.heap.size w (w.alloc (.cells #[.slice q1 n1 c1,.slice q2 n2 c2] 22)):=(Below.refl _ _).alloc (Nat.le_refl _) _
 obtain ⟨g,cap,w',hr,hown,hgr,hat,hlt⟩:=run_append_lies (P:=Tryz.prog) (w.alloc (.cells #[.slice q1 n1 c1,.slice q2 n2 c2] 22)) 42 ty B 22 i _ 1 24 bss_under hi hz hs hby rfl (by decide) v ps.length cells (below_kept ho hbl) ⟨w.heap.size,0,none⟩ 2 2 [.slice q1 n1 c1,.slice q2 n2 c2] rfl
  (World.news_of_block (Blk.new w 22 #[.slice q1 n1 c1,.slice q2 n2 c2])) (by
   intro u hu
   simp only [List.mem_cons,List.not_mem_nil,or_false] at hu
   rcases hu with rfl | rfl <;> rfl) (by decide) (by unfold maxLen;omega) (by omega) (Nat.le_trans hB hbl.size) _ rfl
 refine ⟨g,cap,w',hr,POwn.app2 ⟨cells,below_kept ho hbl,fun i hi=>?_,hown⟩ hgr ?_ e1 e2 (h1.below hbl) (h2.below hbl),?_,fun k hk=>(ho.lt k hk).1⟩
 ·obtain ⟨q,n,c,h3,h4,h5⟩:=hc i hi
  exact ⟨q,n,c,h3,h4,h5.below hbl⟩
 ·rcases hat with h | h
  ·exact .inl (by rw [h];rfl)
  exact .inr (by rw [← h];rfl)
 exact (World.grownBy_alloc w _ _).trans hgr
theorem step_pown {B:Nat} {w:World} {v:Value} {ps:List (List Int)} {q1 q2:Option Addr} {n1 n2 c1 c2:Nat} {x1 x2:List Int} {ops:Array Oper} {o:Oper} {a:Act} {K:Act→World→Prop} {Q:Exit→Act→World→Prop} {E:Prop} (hP:POwn B w v ps) (hB:B≤w.heap.size) (h1:PX w v q1 x1) (h2:PX w v q2 x2) (e1:n1=x1.length) (e2:n2=x2.length) (hl:ps.length≤10000000)
  (hgd:o.guard=none) {s x:Operand} (ho:o.op=.call { callee:=.builtin .append,args:=#[s,x],argTypes:=#[42,42] }) (hs:a.eval s=v) (hx:a.eval x=.slice (some ⟨w.heap.size,0,none⟩) 2 2)
  (h:∀ g cap w',POwn B w' (.slice (some ⟨g,0,none⟩) (ps.length+2) cap) (ps++[x1,x2])→w.grownBy w' v.ownBlock→(∀ k,v.ownBlock=some k→B≤k)→K (a.put o.dst (.slice (some ⟨g,0,none⟩) (ps.length+2) cap)) w') :
  if Region.wanted o (yielded ops a.tmps)=true then Oper.wp Tryz.prog o a (w.alloc (.cells #[.slice q1 n1 c1,.slice q2 n2 c2] 22)) K Q else E:=by
 have hw:Region.wanted o (yielded ops a.tmps)=true:=by simp [Region.wanted,hgd]
 rw [if_pos hw]
 obtain ⟨g,cap,w',hr,h3,h4,h5⟩:=run_pown (c1:=c1) (c2:=c2) o.type hP hB h1 h2 e1 e2 hl
 unfold Oper.wp execOp
 simp only [ho,resolve,invoke,builtin,Sem.run_bind,Sem.run_pure,Result.andThen_ok,List.map_toArray,List.map_cons,List.map_nil,hs,hx,hr]
 exact h g cap w' h3 h4 h5
theorem wpList_pown {B:Nat} {w:World} {v:Value} {ps:List (List Int)} {q1 q2:Option Addr} {n1 n2 c1 c2:Nat} {x1 x2:List Int} {ops:Array Oper} {rest:List Oper} {o:Oper} {a:Act} {Q:Exit→Act→World→Prop} (hP:POwn B w v ps) (hB:B≤w.heap.size) (h1:PX w v q1 x1) (h2:PX w v q2 x2) (e1:n1=x1.length) (e2:n2=x2.length) (hl:ps.length≤10000000)
  (hgd:o.guard=none) {s x:Operand} (ho:o.op=.call { callee:=.builtin .append,args:=#[s,x],argTypes:=#[42,42] }) (hs:a.eval s=v) (hx:a.eval x=.slice (some ⟨w.heap.size,0,none⟩) 2 2)
  (h:∀ g cap w',POwn B w' (.slice (some ⟨g,0,none⟩) (ps.length+2) cap) (ps++[x1,x2])→w.grownBy w' v.ownBlock→(∀ k,v.ownBlock=some k→B≤k)→wpList Tryz.prog ops Q rest (a.put o.dst (.slice (some ⟨g,0,none⟩) (ps.length+2) cap)) w') :
  wpList Tryz.prog ops Q (o::rest) a (w.alloc (.cells #[.slice q1 n1 c1,.slice q2 n2 c2] 22)) :=
 wpList_plain hgd fun _ hK=>by
  obtain ⟨g,cap,w',hr,h3,h4,h5⟩:=run_pown (c1:=c1) (c2:=c2) o.type hP hB h1 h2 e1 e2 hl
  unfold Oper.wp execOp
  simp only [ho,resolve,invoke,builtin,Sem.run_bind,Sem.run_pure,Result.andThen_ok,List.map_toArray,List.map_cons,List.map_nil,hs,hx,hr]
  exact hK _ _ (h g cap w' h3 h4 h5)
theorem st_drew (w:World):Below w.heap.size w w.drew:=⟨rfl,rfl,rfl,Nat.le_refl _,fun _ _=>rfl⟩
theorem POwn.lt {B:Nat} {w:World} {v:Value} {ps:List (List Int)} (h:POwn B w v ps):∀ g,v.ownBlock=some g→B≤g∧g<w.heap.size:=fun g hg=>by
 obtain ⟨cells,h1,_⟩:=h
 exact h1.lt g hg
theorem pown_two {B:Nat} {w w3 w4:World} {v:Value} {ps:List (List Int)} {q1 q2:Option Addr} {x1 x2:List Int} (hP:POwn B w v ps) (hB:B≤w.heap.size) (hb3:Below w.heap.size w w3) (hb4:Below w3.heap.size w3 w4) (hR1:BytesL w3 q1 x1) (hR2:BytesL w4 q2 x2) (hf1:∀ ad,q1=some ad→w.heap.size≤ad.block) (hf2:∀ ad,q2=some ad→w3.heap.size≤ad.block) :
  POwn B w4 v ps∧B≤w4.heap.size∧PX w4 v q1 x1∧PX w4 v q2 x2:=by
 refine ⟨(hP.below hb3).below hb4,Nat.le_trans hB (Nat.le_trans hb3.size hb4.size),px_of (hR1.below hb4) (fun ad e h=>?_),px_of hR2 (fun ad e h=>?_)⟩
 ·have:=(hP.lt _ h).2;have:=hf1 ad e;omega
 have:=(hP.lt _ h).2;have:=hf2 ad e;have:=hb3.size;omega
theorem pown_gone {B gg:Nat} {w w2:World} {v:Value} {ps:List (List Int)} {q2:Option Addr} {x1 x2:List Int} (hP:POwn B w v ps) (hB:B≤w.heap.size) (hg:gg<B) (h1:BytesL w (some ⟨gg,0,none⟩) x1) (hb:Below w.heap.size w w2) (h2:BytesL w2 q2 x2) (hf2:∀ ad,q2=some ad→w.heap.size≤ad.block) :
  POwn B w2 v ps∧B≤w2.heap.size∧PX w2 v (some ⟨gg,0,none⟩) x1∧PX w2 v q2 x2:=by
 refine ⟨hP.below hb,Nat.le_trans hB hb.size,px_of (h1.below hb) (fun ad e h=>?_),px_of h2 (fun ad e h=>?_)⟩
 ·injection e with e;have:=(hP.lt _ h).1;rw [← e] at this;exact absurd hg (Nat.not_lt.2 this)
 have:=(hP.lt _ h).2;have:=hf2 ad e;omega
def qL (k:ByteArray) (cl sq:Int) (n1:Nat) (ds:List Int):Nat→List (List Int)
 | 0=>[[1],lenL (keyL k),numL cl,numL sq,numL (n1:Nat)]
 | m+1=>qL k cl sq n1 ds m++[numL (dD ds (m*2)),numL (dD ds (m*2+1))]
theorem qL_len (k:ByteArray) (cl sq:Int) (n1:Nat) (ds:List Int):∀ m,(qL k cl sq n1 ds m).length=5+2*m
 | 0=>rfl
 | m+1=>by simp only [qL,List.length_append,qL_len k cl sq n1 ds m,List.length_cons,List.length_nil];omega
theorem qL_flat (k:ByteArray) (cl sq:Int) (n1:Nat) (ds:List Int):∀ m,(qL k cl sq n1 ds m).flatten.length=33+k.size+16*m
 | 0=>by simp [qL,lenL,numL_len,keyL_len];omega
 | m+1=>by simp only [qL,List.flatten_append,List.length_append,qL_flat k cl sq n1 ds m];simp [numL_len];omega
def goneI (g:Bool):Int:=if g then 1 else 0
def textL (k:ByteArray) (cl sq:Int) (n1:Nat) (ds:List Int) (gone:Bool) (vs:List Int):List Int:=(qL k cl sq n1 ds n1++[[goneI gone],lenL vs]).flatten
set_option maxRecDepth 20000 in
set_option maxHeartbeats 8000000 in
theorem text_o (k:ByteArray) (cl sq:Int) (p1:Option Addr) (n1 c1:Nat) (gone:Bool) (p2:Option Addr) (n2 c2:Nat) (p3:Option Addr) (n3 c3:Nat) (ds vs:List Int) (hk:k.size≤64) (hcl0:0≤cl) (hcl1:cl<4611686018427387904) (hsq0:0≤sq) (hsq1:sq<4611686018427387904) (hn1:n1≤400000) (hn2:n2=vs.length) (hn3:n2≤1024) (w:World) (hD:DotsL w p1 n1 ds) (hV:BytesL w p2 vs) (hDr:∀ i,i<2*n1→0≤dD ds i∧dD ds i<4611686018427387904) :
  Calls Tryz.prog 115 #[.agg #[.string k,.int .i64 cl,.int .i64 sq,.slice p1 n1 c1,.bool gone,.slice p2 n2 c2,.slice p3 n3 c3]] w (PostO (textL k cl sq n1 ds gone vs) w):=by
 obtain ⟨Q,hQ⟩:∃ Q,Q=qL k cl sq n1 ds:=⟨_,rfl⟩
 have hQ0:Q 0=[[1],lenL (keyL k),numL cl,numL sq,numL (n1:Nat)]:=by rw [hQ];rfl
 have hQs:∀ m,Q (m+1)=Q m++[numL (dD ds (m*2)),numL (dD ds (m*2+1))]:=by rw [hQ];exact fun m=>rfl
 have hQl:∀ m,(Q m).length=5+2*m:=by rw [hQ];exact qL_len k cl sq n1 ds
 have hQt:∀ g,(Q n1++[[goneI g],lenL vs]).flatten=textL k cl sq n1 ds g vs∧(Q n1++[[goneI g],lenL vs]).flatten.length≤100000000:=by
  rw [hQ]
  refine fun g=>⟨rfl,?_⟩
  rw [List.flatten_append,List.length_append,qL_flat]
  simp only [List.flatten_cons,List.flatten_nil,List.append_nil,List.length_append,List.length_cons,List.length_nil,lenL,numL_len]
  omega
 clear hQ
 replace hQ0:=Lib.hid hQ0
 replace hQs:=Lib.hid hQs
 replace hQl:=Lib.hid hQl
 replace hQt:=Lib.hid hQt
 replace hDr:=Lib.hid hDr
 replace hD:=Lib.hid hD
 replace hV:=Lib.hid hV
 replace hn2:=Lib.hid hn2
 go_enter Tryz.func115,Tryz.ntmps115
 cases gone
 ·go_wp2
  refine at_world (fun W0 hW=>?_)
  have hG:Blk W0 w.heap.size 155 #[.string k,.int .i64 cl,.int .i64 sq,.slice p1 n1 c1,.bool false,.slice p2 n2 c2,.slice p3 n3 c3]:=by rw [hW];exact (Blk.new _ _ _).alloc _
  have hgg:Blk W0 (w.heap.size+1) 5 #[.int .u8 0]:=by rw [hW];exact blk_at (by simp) (Blk.new _ _ _)
  have hb0:Below w.heap.size w W0:=by rw [hW];go_grown
  obtain ⟨B,hBe⟩:∃ B,B=w.heap.size+1+1:=⟨_,rfl⟩
  have hB:B≤W0.heap.size:=by rw [hW,hBe];simp
  have hgw:w.heap.size<w.heap.size+1:=Nat.lt_succ_self _
  have hgB:w.heap.size+1<B:=by omega
  clear hW hBe
  generalize w.heap.size+1=gg at *
  refine wp_region_grow2 21 (fun k=>Nat.beq k 4||(Nat.ble 13 k&&Nat.ble k 32)) _ [] (fun j x' q=>(txL k cl sq p1 n1 c1 B w.heap.size).getD j (fun _ _=>True) x' q) (fun _=>false) (fun f=>#[.agg #[.string k,.int .i64 cl,.int .i64 sq,.slice p1 n1 c1,.bool false,.slice p2 n2 c2,.slice p3 n3 c3],.pointer (some ⟨w.heap.size,0,none⟩),.slice none 0 0,.slice (some ⟨gg,0,none⟩) 1 1,f 4,undef,undef,.slice (some ⟨gg,0,none⟩) 1 1,.pointer (some ⟨w.heap.size,0,none⟩),.pointer (some ⟨w.heap.size,4,none⟩),.bool false,undef,undef,f 13,f 14,f 15,f 16,f 17,f 18,f 19,f 20,f 21,f 22,f 23,f 24,f 25,f 26,f 27,f 28,f 29,f 30,f 31,f 32,undef,undef,undef,undef,undef,undef,undef,undef,undef,undef,undef,undef,undef,undef,undef,undef,undef,undef,undef,undef,undef,undef,undef,undef,undef,undef,undef]) (fun f=>rfl) (by kernel_rfl) (by kernel_rfl) (by kernel_rfl) (by kernel_rfl) (by kernel_rfl) (txS _ _ _ _ _ _ _ _) (fun _ _ _ h=>by cases h) ?_ ?_
  ·refine steps2_cons ?_ ?_
   ·intro f w1 hb hd Q hK
    clear hd
    have hK:=Lib.hid hK
    go_wp2
    exact hK.out _ _ ⟨_,_,_,rfl,rfl,one_new _ _⟩ ((Below.refl _ _).alloc (Nat.le_refl _) _) nof
   refine steps2_cons ?_ ?_
   ·intro f w1 hb hd Q hK
    clear hd
    have hK:=Lib.hid hK
    go_wp2
    exact hK.out _ _ rfl (.refl _ _) nof
   refine steps2_cons ?_ ?_
   ·intro f w1 hb hd Q hK
    have e14:f 14=.pointer (some ⟨w.heap.size,0,none⟩):=hd.1 rfl
    clear hd
    simp only [e14] at hK
    have hK:=Lib.hid hK
    go_wp2
    exact hK.out _ _ rfl (.refl _ _) nof
   refine steps2_cons ?_ ?_
   ·intro f w1 hb hd Q hK
    have e15:f 15=.pointer (some ⟨w.heap.size,0,none⟩):=hd.1 rfl
    clear hd
    simp only [e15] at hK
    have hK:=Lib.hid hK
    have c0:=(hG.below hb).cell 0
    simp only [List.getElem?_toArray,List.getElem?_cons_zero] at c0
    go_wp2
    exact hK.out _ _ rfl (.refl _ _) nof
   refine steps2_cons ?_ ?_
   ·intro f w1 hb hd Q hK
    have e16:f 16=.string k:=hd.1 rfl
    clear hd
    simp only [e16] at hK
    have hK:=Lib.hid hK
    have kc:=conv_run k
    go_wp2
    exact hK.out _ _ (conv_sl _ _ _) (conv_below _ _) nof
   refine steps2_cons ?_ ?_
   ·intro f w1 hb hd Q hK
    obtain ⟨p17,n17,c17,e17,l17,b17⟩:=(hd.1 rfl:SlL (keyL k) (f 17) w1)
    replace l17:=Lib.hid l17
    replace b17:=Lib.hid b17
    clear hd
    simp only [e17] at hK
    have hK:=Lib.hid hK
    go_wp2_with fail
    refine (bytes_l _ _ _ _ l17.out (by rw [l17.out,keyL_len];omega) _ b17.out).mono ?_
    rintro e w2 ⟨r,m,c2,rfl,hm,hR,hb2,-⟩
    replace hm:=Lib.hid hm
    go_wp2
    exact hK.out _ _ ⟨_,_,_,rfl,hm.out,hR⟩ hb2 nof
   refine steps2_cons ?_ ?_
   ·intro f w1 hb hd Q hK
    clear hd
    have hK:=Lib.hid hK
    go_wp2
    exact hK.out _ _ rfl (.refl _ _) nof
   refine steps2_cons ?_ ?_
   ·intro f w1 hb hd Q hK
    have e19:f 19=.pointer (some ⟨w.heap.size,0,none⟩):=hd.1 rfl
    clear hd
    simp only [e19] at hK
    have hK:=Lib.hid hK
    go_wp2
    exact hK.out _ _ rfl (.refl _ _) nof
   refine steps2_cons ?_ ?_
   ·intro f w1 hb hd Q hK
    have e20:f 20=.pointer (some ⟨w.heap.size,1,none⟩):=hd.1 rfl
    clear hd
    simp only [e20] at hK
    have hK:=Lib.hid hK
    have c0:=(hG.below hb).cell 1
    simp only [List.getElem?_toArray,List.getElem?_cons_zero,List.getElem?_cons_succ] at c0
    go_wp2
    exact hK.out _ _ rfl (.refl _ _) nof
   refine steps2_cons ?_ ?_
   ·intro f w1 hb hd Q hK
    have e21:f 21=.int .i64 cl:=hd.1 rfl
    clear hd
    simp only [e21] at hK
    have hK:=Lib.hid hK
    go_wp2_with fail
    refine (number_c cl hcl0 hcl1 _).mono ?_
    rintro e w2 ⟨r,m,c2,rfl,hm,hR,hb2,-⟩
    replace hm:=Lib.hid hm
    go_wp2
    exact hK.out _ _ ⟨_,_,_,rfl,hm.out,hR⟩ hb2 nof
   refine steps2_cons ?_ ?_
   ·intro f w1 hb hd Q hK
    clear hd
    have hK:=Lib.hid hK
    go_wp2
    exact hK.out _ _ rfl (.refl _ _) nof
   refine steps2_cons ?_ ?_
   ·intro f w1 hb hd Q hK
    have e23:f 23=.pointer (some ⟨w.heap.size,0,none⟩):=hd.1 rfl
    clear hd
    simp only [e23] at hK
    have hK:=Lib.hid hK
    go_wp2
    exact hK.out _ _ rfl (.refl _ _) nof
   refine steps2_cons ?_ ?_
   ·intro f w1 hb hd Q hK
    have e24:f 24=.pointer (some ⟨w.heap.size,2,none⟩):=hd.1 rfl
    clear hd
    simp only [e24] at hK
    have hK:=Lib.hid hK
    have c0:=(hG.below hb).cell 2
    simp only [List.getElem?_toArray,List.getElem?_cons_zero,List.getElem?_cons_succ] at c0
    go_wp2
    exact hK.out _ _ rfl (.refl _ _) nof
   refine steps2_cons ?_ ?_
   ·intro f w1 hb hd Q hK
    have e25:f 25=.int .i64 sq:=hd.1 rfl
    clear hd
    simp only [e25] at hK
    have hK:=Lib.hid hK
    go_wp2_with fail
    refine (number_c sq hsq0 hsq1 _).mono ?_
    rintro e w2 ⟨r,m,c2,rfl,hm,hR,hb2,-⟩
    replace hm:=Lib.hid hm
    go_wp2
    exact hK.out _ _ ⟨_,_,_,rfl,hm.out,hR⟩ hb2 nof
   refine steps2_cons ?_ ?_
   ·intro f w1 hb hd Q hK
    clear hd
    have hK:=Lib.hid hK
    go_wp2
    exact hK.out _ _ rfl (.refl _ _) nof
   refine steps2_cons ?_ ?_
   ·intro f w1 hb hd Q hK
    have e27:f 27=.pointer (some ⟨w.heap.size,0,none⟩):=hd.1 rfl
    clear hd
    simp only [e27] at hK
    have hK:=Lib.hid hK
    go_wp2
    exact hK.out _ _ rfl (.refl _ _) nof
   refine steps2_cons ?_ ?_
   ·intro f w1 hb hd Q hK
    have e28:f 28=.pointer (some ⟨w.heap.size,3,none⟩):=hd.1 rfl
    clear hd
    simp only [e28] at hK
    have hK:=Lib.hid hK
    have c0:=(hG.below hb).cell 3
    simp only [List.getElem?_toArray,List.getElem?_cons_zero,List.getElem?_cons_succ] at c0
    go_wp2
    exact hK.out _ _ rfl (.refl _ _) nof
   refine steps2_cons ?_ ?_
   ·intro f w1 hb hd Q hK
    have e29:f 29=.slice p1 n1 c1:=hd.1 rfl
    clear hd
    simp only [e29] at hK
    have hK:=Lib.hid hK
    go_wp2
    exact hK.out _ _ rfl (.refl _ _) nof
   refine steps2_cons ?_ ?_
   ·intro f w1 hb hd Q hK
    have e30:f 30=.int .i64 n1:=hd.1 rfl
    clear hd
    simp only [e30] at hK
    have hK:=Lib.hid hK
    go_wp2_with fail
    refine (number_c (n1:Int) (by omega) (by omega) _).mono ?_
    rintro e w2 ⟨r,m,c2,rfl,hm,hR,hb2,-⟩
    replace hm:=Lib.hid hm
    go_wp2
    exact hK.out _ _ ⟨_,_,_,rfl,hm.out,hR⟩ hb2 nof
   refine steps2_cons ?_ ?_
   ·intro f w1 hb hd Q hK
    obtain ⟨p13,n13,c13,e13,l13,b13⟩:=(hd.1 rfl:SlL ([1]) (f 13) w1)
    replace l13:=Lib.hid l13
    replace b13:=Lib.hid b13
    obtain ⟨p18,n18,c18,e18,l18,b18⟩:=(hd.2.1 rfl:SlL (lenL (keyL k)) (f 18) w1)
    replace l18:=Lib.hid l18
    replace b18:=Lib.hid b18
    obtain ⟨p22,n22,c22,e22,l22,b22⟩:=(hd.2.2.1 rfl:SlL (numL cl) (f 22) w1)
    replace l22:=Lib.hid l22
    replace b22:=Lib.hid b22
    obtain ⟨p26,n26,c26,e26,l26,b26⟩:=(hd.2.2.2.1 rfl:SlL (numL sq) (f 26) w1)
    replace l26:=Lib.hid l26
    replace b26:=Lib.hid b26
    obtain ⟨p31,n31,c31,e31,l31,b31⟩:=(hd.2.2.2.2.1 rfl:SlL (numL (n1:Nat)) (f 31) w1)
    replace l31:=Lib.hid l31
    replace b31:=Lib.hid b31
    clear hd
    simp only [e13,e18,e22,e26,e31] at hK
    have hK:=Lib.hid hK
    have hB1:=Nat.le_trans hB hb.size
    go_wp2
    exact hK.out _ _ ⟨_,rfl,pown5 hB1 ⟨_,_,_,rfl,l13.out,b13.out⟩ ⟨_,_,_,rfl,l18.out,b18.out⟩ ⟨_,_,_,rfl,l22.out,b22.out⟩ ⟨_,_,_,rfl,l26.out,b26.out⟩ ⟨_,_,_,rfl,l31.out,b31.out⟩⟩ ((Below.refl _ _).alloc (Nat.le_refl _) _) nof
   refine steps2_cons ?_ ?_
   ·intro f w1 hb hd Q hK
    obtain ⟨g32,e32,po32⟩:=(hd.1 rfl:PtL B ([[1],lenL (keyL k),numL cl,numL sq,numL (n1:Nat)]) (f 32) w1)
    replace po32:=Lib.hid po32
    clear hd
    simp only [e32] at hK
    have hK:=Lib.hid hK
    go_wp2
    exact hK.out _ _ ⟨_,rfl,po32.out⟩ (.refl _ _) nof
   trivial
  intro f w1 hb hf hne
  refine wpList_nil ?_
  obtain ⟨g4,d4,po4⟩:PtL B ([[1],lenL (keyL k),numL cl,numL sq,numL (n1:Nat)]) (f 4) w1:=hf 20 _ _ (by decide) rfl rfl
  clear hf hne
  simp only [d4]
  clear d4
  replace hG:=hG.below hb
  replace hgg:=hgg.below hb
  replace hb0:=hb0.trans (hb.mono hb0.size)
  have hBs:B≤w1.heap.size:=Nat.le_trans hB hb.size
  clear hb hB
  replace po4:=Lib.hid po4
  obtain ⟨y0,y1,y2,y3,y4,y5,y6⟩:=blk7 hG
  go_wp2
  clear y0 y1 y2 y3 y4 y5 y6
  go_loopw [4,37] (fun v i wr=>∃ m:Nat,m≤n1∧i=.int .i64 m∧POwn B wr v (Q m)∧Blk wr w.heap.size 155 #[.string k,.int .i64 cl,.int .i64 sq,.slice p1 n1 c1,.bool false,.slice p2 n2 c2,.slice p3 n3 c3]∧Blk wr gg 5 #[.int .u8 0]∧B≤wr.heap.size∧Below w.heap.size w wr) (fun _ i _=>(n1-intOf i).toNat)
  case atStart=>exact ⟨0,by omega,rfl,by rw [hQ0.out];exact po4.out,hG,hgg,hBs,hb0⟩
  case round =>
   clear hG hgg hb0 po4 hBs
   obtain ⟨m,hm,hi,hP,hG,hgg,hBs,hb⟩:=hrel
   subst hi
   by_cases he:m=n1
   ·subst he
    have hgone:BytesL wr (some ⟨gg,0,none⟩) [goneI false]:=fun _=>⟨gg,0,rfl,hgg.lt,fun j hj=>by
     have:j=0:=by simpa using hj
     subst this
     exact hgg.cell 0⟩
    have hql:(Q m).length≤10000000:=by rw [hQl.out m];omega
    obtain ⟨ht1,ht2⟩:=hQt.out false
    replace ht1:=Lib.hid ht1
    replace ht2:=Lib.hid ht2
    replace hql:=Lib.hid hql
    replace hgone:=Lib.hid hgone
    replace hP:=Lib.hid hP
    clear hm
    obtain ⟨y0,y1,y2,y3,y4,y5,y6⟩:=blk7 hG
    go_wp2_with fail
    clear y0 y1 y2 y3 y4 y5 y6
    refine (bytes_l p2 n2 c2 vs hn2.out (by omega) _ (hV.out.below hb)).mono ?_
    rintro e w2 ⟨q2,m2,k2,rfl,hm2,hR2,hb2,hf2⟩
    have hPP:=pown_gone hP.out hBs hgB hgone.out hb2 hR2 hf2
    replace hm2:=Lib.hid hm2
    replace hPP:=Lib.hid hPP
    have hb3:=hb.trans (hb2.mono hb.size)
    clear hP hR2 hf2 hgone hG hgg hb2 hb hBs
    go_wp2_with (refine wpList_pown hPP.out.1 hPP.out.2.1 hPP.out.2.2.1 hPP.out.2.2.2 rfl hm2.out hql.out rfl rfl rfl rfl ?_;intro g6 c6 w6 hP6 hgr6 hk6;replace hP6:=Lib.hid hP6;replace hgr6:=Lib.hid hgr6;replace hk6:=Lib.hid hk6)
    have hb6:=hb3.grown hgr6.out hb3.size (fun k h=>by have:=hk6.out k h;omega)
    have hpl:(Q m).length+2=(Q m++[[goneI false],lenL vs]).length:=by simp
    have hpk:(Q m).length+2≤1000000:=by rw [hQl.out m];omega
    refine (join_o g6 0 _ c6 _ hpl ht2.out hpk w6 (hP6.out.parts hpl)).mono ?_
    rintro e w7 ⟨v7,n7,rfl,ho7,hb7⟩
    rw [ht1.out] at ho7
    have hb8:=hb6.trans (hb7.mono hb6.size)
    have ho8:=Lib.hid (own_mono ho7 hb6.size)
    clear ho7 hpl hpk hb7 hb6 hb3 hP6 hgr6 hk6 hPP ht1 ht2
    go_wp2
    go_returns
    exact ⟨_,_,rfl,ho8.out,hb8⟩
   have hm0:(0:Int)≤(m:Int):=by omega
   have hm1:(m:Int)<(n1:Int):=by omega
   have hm2:m<n1:=by omega
   obtain ⟨g,o,rfl,hg,hc⟩:=(hD.out.2.below hb) (by omega)
   have c0:wr.cell? ⟨g,o+m*2,none⟩=some (.int .i64 (dD ds (m*2))):=hc (m*2) (by omega)
   have c1:wr.cell? ⟨g,o+m*2+1,none⟩=some (.int .i64 (dD ds (m*2+1))):=by rw [Nat.add_assoc];exact hc (m*2+1) (by omega)
   have hx:=hDr.out (m*2) (by omega)
   have hy:=hDr.out (m*2+1) (by omega)
   have hnx:=number_c _ hx.1 hx.2
   have hny:=number_c _ hy.1 hy.2
   have hqs:=hQs.out m
   have hql:(Q m).length≤10000000:=by rw [hQl.out m];omega
   replace hqs:=Lib.hid hqs
   replace hnx:=Lib.hid hnx
   replace hny:=Lib.hid hny
   have hgd0:u4.ownBlock≠some wr.heap.size:=fun h=>by have:=(hP.lt _ h).2;omega
   replace hP:=Lib.hid hP
   replace hql:=Lib.hid hql
   clear hx hy hc he hm
   generalize dD ds (m*2)=x at *
   generalize dD ds (m*2+1)=y at *
   go_wp2
   clear c0 c1 hg
   refine at_world (fun W1 hW=>?_)
   have hd:Blk W1 wr.heap.size 175 #[.int .i64 x,.int .i64 y]:=by rw [hW];exact Blk.new _ _ _
   have hbw:Below wr.heap.size wr W1:=by rw [hW];exact (Below.refl _ _).alloc (Nat.le_refl _) _
   clear hW
   replace hP:=Lib.hid ((hP.out.below hbw).below (st_drew W1))
   replace hG:=(hG.below hbw).drew
   replace hgg:=(hgg.below hbw).drew
   have hb1:=(hb.trans (hbw.mono hb.size)).drew
   replace hBs:B≤W1.drew.heap.size:=Nat.le_trans hBs hbw.size
   replace hd:=hd.drew
   clear hbw hb
   have hgd:some wr.heap.size≠u4.ownBlock:=fun h=>hgd0 h.symm
   replace hgd:=Lib.hid hgd
   clear hgd0
   generalize wr.heap.size=gd at *
   go_region_held3 (fun w'=>w'.cell? ⟨gd,0,none⟩=some (.int .i64 x)∧w'.cell? ⟨gd,1,none⟩=some (.int .i64 y)) (first | exact blk2 hd6 | exact blk2 (hd4.alloc _) | exact blk2 hd4 | exact blk2 hd3 | exact blk2 hd) (first | (go_at_call 217;refine (hnx.out _).mono ?_;rintro q w3 ⟨q1,m1,k1,rfl,hm1,hR1,hb3,hf1⟩;replace hm1:=Lib.hid hm1;replace hR1:=Lib.hid hR1;replace hf1:=Lib.hid hf1;have hd3:=hd.below hb3;clear hnx hd) | (go_at_call 217;refine (hny.out _).mono ?_;rintro q w4 ⟨q2,m2,k2,rfl,hm2',hR2,hb4,hf2⟩;replace hm2':=Lib.hid hm2';replace hR2:=Lib.hid hR2;replace hf2:=Lib.hid hf2;have hd4:=hd3.below hb4;clear hny hd3;have hPP:=Lib.hid (pown_two hP.out hBs hb3 hb4 hR1.out hR2.out hf1.out hf2.out)) | (refine step_pown hPP.out.1 hPP.out.2.1 hPP.out.2.2.1 hPP.out.2.2.2 hm1.out hm2'.out hql.out rfl rfl rfl rfl ?_;intro g6 c6 w6 hP6 hgr6 hk6;replace hP6:=Lib.hid hP6;replace hgr6:=Lib.hid hgr6;replace hk6:=Lib.hid hk6;have hd6:=Blk.grown hd4 hgr6.out hgd.out))
   have hs3:=hb3.size
   have hs4:=hb4.size
   have hs6:=hgr6.out.size
   have hG6:=Blk.grown ((hG.below hb3).below hb4) hgr6.out (fun h=>by have:=hk6.out _ h.symm;omega)
   have hgg6:=Blk.grown ((hgg.below hb3).below hb4) hgr6.out (fun h=>by have:=hk6.out _ h.symm;omega)
   have hbb:=hb1.trans (hb3.mono hb1.size)
   have hbb2:=hbb.trans (hb4.mono hbb.size)
   have hb6:=hbb2.grown hgr6.out hbb2.size (fun k h=>by have:=hk6.out k h;omega)
   have hBs6:B≤w6.heap.size:=by omega
   clear hG hgg hbb hbb2 hb1 hb3 hb4 hd4 hd6 hPP hR1 hR2 hf1 hf2 hm1 hm2' hgr6 hk6 hs3 hs4 hs6
   go_wp2
   exact ⟨⟨m+1,by omega,rfl,by rw [hqs.out];exact hP6.out,hG6,hgg6,hBs6,hb6⟩,by simp [intOf];omega⟩
 go_wp2
 refine at_world (fun W0 hW=>?_)
 have hG:Blk W0 w.heap.size 155 #[.string k,.int .i64 cl,.int .i64 sq,.slice p1 n1 c1,.bool true,.slice p2 n2 c2,.slice p3 n3 c3]:=by rw [hW];exact (Blk.new _ _ _).alloc _
 have hgg:Blk W0 (w.heap.size+1) 5 #[.int .u8 1]:=by rw [hW];exact blk_at (by simp) (Blk.new _ _ _)
 have hb0:Below w.heap.size w W0:=by rw [hW];go_grown
 obtain ⟨B,hBe⟩:∃ B,B=w.heap.size+1+1:=⟨_,rfl⟩
 have hB:B≤W0.heap.size:=by rw [hW,hBe];simp
 have hgw:w.heap.size<w.heap.size+1:=Nat.lt_succ_self _
 have hgB:w.heap.size+1<B:=by omega
 clear hW hBe
 generalize w.heap.size+1=gg at *
 refine wp_region_grow2 21 (fun k=>Nat.beq k 4||(Nat.ble 13 k&&Nat.ble k 32)) _ [] (fun j x' q=>(txL k cl sq p1 n1 c1 B w.heap.size).getD j (fun _ _=>True) x' q) (fun _=>false) (fun f=>#[.agg #[.string k,.int .i64 cl,.int .i64 sq,.slice p1 n1 c1,.bool true,.slice p2 n2 c2,.slice p3 n3 c3],.pointer (some ⟨w.heap.size,0,none⟩),.slice none 0 0,.slice (some ⟨gg,0,none⟩) 1 1,f 4,undef,undef,.slice (some ⟨gg,0,none⟩) 1 1,.pointer (some ⟨w.heap.size,0,none⟩),.pointer (some ⟨w.heap.size,4,none⟩),.bool true,.slice (some ⟨gg,0,none⟩) 1 1,.pointer (some ⟨gg,0,none⟩),f 13,f 14,f 15,f 16,f 17,f 18,f 19,f 20,f 21,f 22,f 23,f 24,f 25,f 26,f 27,f 28,f 29,f 30,f 31,f 32,undef,undef,undef,undef,undef,undef,undef,undef,undef,undef,undef,undef,undef,undef,undef,undef,undef,undef,undef,undef,undef,undef,undef,undef,undef,undef,undef]) (fun f=>rfl) (by kernel_rfl) (by kernel_rfl) (by kernel_rfl) (by kernel_rfl) (by kernel_rfl) (txS _ _ _ _ _ _ _ _) (fun _ _ _ h=>by cases h) ?_ ?_
 ·refine steps2_cons ?_ ?_
  ·intro f w1 hb hd Q hK
   clear hd
   have hK:=Lib.hid hK
   go_wp2
   exact hK.out _ _ ⟨_,_,_,rfl,rfl,one_new _ _⟩ ((Below.refl _ _).alloc (Nat.le_refl _) _) nof
  refine steps2_cons ?_ ?_
  ·intro f w1 hb hd Q hK
   clear hd
   have hK:=Lib.hid hK
   go_wp2
   exact hK.out _ _ rfl (.refl _ _) nof
  refine steps2_cons ?_ ?_
  ·intro f w1 hb hd Q hK
   have e14:f 14=.pointer (some ⟨w.heap.size,0,none⟩):=hd.1 rfl
   clear hd
   simp only [e14] at hK
   have hK:=Lib.hid hK
   go_wp2
   exact hK.out _ _ rfl (.refl _ _) nof
  refine steps2_cons ?_ ?_
  ·intro f w1 hb hd Q hK
   have e15:f 15=.pointer (some ⟨w.heap.size,0,none⟩):=hd.1 rfl
   clear hd
   simp only [e15] at hK
   have hK:=Lib.hid hK
   have c0:=(hG.below hb).cell 0
   simp only [List.getElem?_toArray,List.getElem?_cons_zero] at c0
   go_wp2
   exact hK.out _ _ rfl (.refl _ _) nof
  refine steps2_cons ?_ ?_
  ·intro f w1 hb hd Q hK
   have e16:f 16=.string k:=hd.1 rfl
   clear hd
   simp only [e16] at hK
   have hK:=Lib.hid hK
   have kc:=conv_run k
   go_wp2
   exact hK.out _ _ (conv_sl _ _ _) (conv_below _ _) nof
  refine steps2_cons ?_ ?_
  ·intro f w1 hb hd Q hK
   obtain ⟨p17,n17,c17,e17,l17,b17⟩:=(hd.1 rfl:SlL (keyL k) (f 17) w1)
   replace l17:=Lib.hid l17
   replace b17:=Lib.hid b17
   clear hd
   simp only [e17] at hK
   have hK:=Lib.hid hK
   go_wp2_with fail
   refine (bytes_l _ _ _ _ l17.out (by rw [l17.out,keyL_len];omega) _ b17.out).mono ?_
   rintro e w2 ⟨r,m,c2,rfl,hm,hR,hb2,-⟩
   replace hm:=Lib.hid hm
   go_wp2
   exact hK.out _ _ ⟨_,_,_,rfl,hm.out,hR⟩ hb2 nof
  refine steps2_cons ?_ ?_
  ·intro f w1 hb hd Q hK
   clear hd
   have hK:=Lib.hid hK
   go_wp2
   exact hK.out _ _ rfl (.refl _ _) nof
  refine steps2_cons ?_ ?_
  ·intro f w1 hb hd Q hK
   have e19:f 19=.pointer (some ⟨w.heap.size,0,none⟩):=hd.1 rfl
   clear hd
   simp only [e19] at hK
   have hK:=Lib.hid hK
   go_wp2
   exact hK.out _ _ rfl (.refl _ _) nof
  refine steps2_cons ?_ ?_
  ·intro f w1 hb hd Q hK
   have e20:f 20=.pointer (some ⟨w.heap.size,1,none⟩):=hd.1 rfl
   clear hd
   simp only [e20] at hK
   have hK:=Lib.hid hK
   have c0:=(hG.below hb).cell 1
   simp only [List.getElem?_toArray,List.getElem?_cons_zero,List.getElem?_cons_succ] at c0
   go_wp2
   exact hK.out _ _ rfl (.refl _ _) nof
  refine steps2_cons ?_ ?_
  ·intro f w1 hb hd Q hK
   have e21:f 21=.int .i64 cl:=hd.1 rfl
   clear hd
   simp only [e21] at hK
   have hK:=Lib.hid hK
   go_wp2_with fail
   refine (number_c cl hcl0 hcl1 _).mono ?_
   rintro e w2 ⟨r,m,c2,rfl,hm,hR,hb2,-⟩
   replace hm:=Lib.hid hm
   go_wp2
   exact hK.out _ _ ⟨_,_,_,rfl,hm.out,hR⟩ hb2 nof
  refine steps2_cons ?_ ?_
  ·intro f w1 hb hd Q hK
   clear hd
   have hK:=Lib.hid hK
   go_wp2
   exact hK.out _ _ rfl (.refl _ _) nof
  refine steps2_cons ?_ ?_
  ·intro f w1 hb hd Q hK
   have e23:f 23=.pointer (some ⟨w.heap.size,0,none⟩):=hd.1 rfl
   clear hd
   simp only [e23] at hK
   have hK:=Lib.hid hK
   go_wp2
   exact hK.out _ _ rfl (.refl _ _) nof
  refine steps2_cons ?_ ?_
  ·intro f w1 hb hd Q hK
   have e24:f 24=.pointer (some ⟨w.heap.size,2,none⟩):=hd.1 rfl
   clear hd
   simp only [e24] at hK
   have hK:=Lib.hid hK
   have c0:=(hG.below hb).cell 2
   simp only [List.getElem?_toArray,List.getElem?_cons_zero,List.getElem?_cons_succ] at c0
   go_wp2
   exact hK.out _ _ rfl (.refl _ _) nof
  refine steps2_cons ?_ ?_
  ·intro f w1 hb hd Q hK
   have e25:f 25=.int .i64 sq:=hd.1 rfl
   clear hd
   simp only [e25] at hK
   have hK:=Lib.hid hK
   go_wp2_with fail
   refine (number_c sq hsq0 hsq1 _).mono ?_
   rintro e w2 ⟨r,m,c2,rfl,hm,hR,hb2,-⟩
   replace hm:=Lib.hid hm
   go_wp2
   exact hK.out _ _ ⟨_,_,_,rfl,hm.out,hR⟩ hb2 nof
  refine steps2_cons ?_ ?_
  ·intro f w1 hb hd Q hK
   clear hd
   have hK:=Lib.hid hK
   go_wp2
   exact hK.out _ _ rfl (.refl _ _) nof
  refine steps2_cons ?_ ?_
  ·intro f w1 hb hd Q hK
   have e27:f 27=.pointer (some ⟨w.heap.size,0,none⟩):=hd.1 rfl
   clear hd
   simp only [e27] at hK
   have hK:=Lib.hid hK
   go_wp2
   exact hK.out _ _ rfl (.refl _ _) nof
  refine steps2_cons ?_ ?_
  ·intro f w1 hb hd Q hK
   have e28:f 28=.pointer (some ⟨w.heap.size,3,none⟩):=hd.1 rfl
   clear hd
   simp only [e28] at hK
   have hK:=Lib.hid hK
   have c0:=(hG.below hb).cell 3
   simp only [List.getElem?_toArray,List.getElem?_cons_zero,List.getElem?_cons_succ] at c0
   go_wp2
   exact hK.out _ _ rfl (.refl _ _) nof
  refine steps2_cons ?_ ?_
  ·intro f w1 hb hd Q hK
   have e29:f 29=.slice p1 n1 c1:=hd.1 rfl
   clear hd
   simp only [e29] at hK
   have hK:=Lib.hid hK
   go_wp2
   exact hK.out _ _ rfl (.refl _ _) nof
  refine steps2_cons ?_ ?_
  ·intro f w1 hb hd Q hK
   have e30:f 30=.int .i64 n1:=hd.1 rfl
   clear hd
   simp only [e30] at hK
   have hK:=Lib.hid hK
   go_wp2_with fail
   refine (number_c (n1:Int) (by omega) (by omega) _).mono ?_
   rintro e w2 ⟨r,m,c2,rfl,hm,hR,hb2,-⟩
   replace hm:=Lib.hid hm
   go_wp2
   exact hK.out _ _ ⟨_,_,_,rfl,hm.out,hR⟩ hb2 nof
  refine steps2_cons ?_ ?_
  ·intro f w1 hb hd Q hK
   obtain ⟨p13,n13,c13,e13,l13,b13⟩:=(hd.1 rfl:SlL ([1]) (f 13) w1)
   replace l13:=Lib.hid l13
   replace b13:=Lib.hid b13
   obtain ⟨p18,n18,c18,e18,l18,b18⟩:=(hd.2.1 rfl:SlL (lenL (keyL k)) (f 18) w1)
   replace l18:=Lib.hid l18
   replace b18:=Lib.hid b18
   obtain ⟨p22,n22,c22,e22,l22,b22⟩:=(hd.2.2.1 rfl:SlL (numL cl) (f 22) w1)
   replace l22:=Lib.hid l22
   replace b22:=Lib.hid b22
   obtain ⟨p26,n26,c26,e26,l26,b26⟩:=(hd.2.2.2.1 rfl:SlL (numL sq) (f 26) w1)
   replace l26:=Lib.hid l26
   replace b26:=Lib.hid b26
   obtain ⟨p31,n31,c31,e31,l31,b31⟩:=(hd.2.2.2.2.1 rfl:SlL (numL (n1:Nat)) (f 31) w1)
   replace l31:=Lib.hid l31
   replace b31:=Lib.hid b31
   clear hd
   simp only [e13,e18,e22,e26,e31] at hK
   have hK:=Lib.hid hK
   have hB1:=Nat.le_trans hB hb.size
   go_wp2
   exact hK.out _ _ ⟨_,rfl,pown5 hB1 ⟨_,_,_,rfl,l13.out,b13.out⟩ ⟨_,_,_,rfl,l18.out,b18.out⟩ ⟨_,_,_,rfl,l22.out,b22.out⟩ ⟨_,_,_,rfl,l26.out,b26.out⟩ ⟨_,_,_,rfl,l31.out,b31.out⟩⟩ ((Below.refl _ _).alloc (Nat.le_refl _) _) nof
  refine steps2_cons ?_ ?_
  ·intro f w1 hb hd Q hK
   obtain ⟨g32,e32,po32⟩:=(hd.1 rfl:PtL B ([[1],lenL (keyL k),numL cl,numL sq,numL (n1:Nat)]) (f 32) w1)
   replace po32:=Lib.hid po32
   clear hd
   simp only [e32] at hK
   have hK:=Lib.hid hK
   go_wp2
   exact hK.out _ _ ⟨_,rfl,po32.out⟩ (.refl _ _) nof
  trivial
 intro f w1 hb hf hne
 refine wpList_nil ?_
 obtain ⟨g4,d4,po4⟩:PtL B ([[1],lenL (keyL k),numL cl,numL sq,numL (n1:Nat)]) (f 4) w1:=hf 20 _ _ (by decide) rfl rfl
 clear hf hne
 simp only [d4]
 clear d4
 replace hG:=hG.below hb
 replace hgg:=hgg.below hb
 replace hb0:=hb0.trans (hb.mono hb0.size)
 have hBs:B≤w1.heap.size:=Nat.le_trans hB hb.size
 clear hb hB
 replace po4:=Lib.hid po4
 obtain ⟨y0,y1,y2,y3,y4,y5,y6⟩:=blk7 hG
 go_wp2
 clear y0 y1 y2 y3 y4 y5 y6
 go_loopw [4,37] (fun v i wr=>∃ m:Nat,m≤n1∧i=.int .i64 m∧POwn B wr v (Q m)∧Blk wr w.heap.size 155 #[.string k,.int .i64 cl,.int .i64 sq,.slice p1 n1 c1,.bool true,.slice p2 n2 c2,.slice p3 n3 c3]∧Blk wr gg 5 #[.int .u8 1]∧B≤wr.heap.size∧Below w.heap.size w wr) (fun _ i _=>(n1-intOf i).toNat)
 case atStart=>exact ⟨0,by omega,rfl,by rw [hQ0.out];exact po4.out,hG,hgg,hBs,hb0⟩
 case round =>
  clear hG hgg hb0 po4 hBs
  obtain ⟨m,hm,hi,hP,hG,hgg,hBs,hb⟩:=hrel
  subst hi
  by_cases he:m=n1
  ·subst he
   have hgone:BytesL wr (some ⟨gg,0,none⟩) [goneI true]:=fun _=>⟨gg,0,rfl,hgg.lt,fun j hj=>by
    have:j=0:=by simpa using hj
    subst this
    exact hgg.cell 0⟩
   have hql:(Q m).length≤10000000:=by rw [hQl.out m];omega
   obtain ⟨ht1,ht2⟩:=hQt.out true
   replace ht1:=Lib.hid ht1
   replace ht2:=Lib.hid ht2
   replace hql:=Lib.hid hql
   replace hgone:=Lib.hid hgone
   replace hP:=Lib.hid hP
   clear hm
   obtain ⟨y0,y1,y2,y3,y4,y5,y6⟩:=blk7 hG
   go_wp2_with fail
   clear y0 y1 y2 y3 y4 y5 y6
   refine (bytes_l p2 n2 c2 vs hn2.out (by omega) _ (hV.out.below hb)).mono ?_
   rintro e w2 ⟨q2,m2,k2,rfl,hm2,hR2,hb2,hf2⟩
   have hPP:=pown_gone hP.out hBs hgB hgone.out hb2 hR2 hf2
   replace hm2:=Lib.hid hm2
   replace hPP:=Lib.hid hPP
   have hb3:=hb.trans (hb2.mono hb.size)
   clear hP hR2 hf2 hgone hG hgg hb2 hb hBs
   go_wp2_with (refine wpList_pown hPP.out.1 hPP.out.2.1 hPP.out.2.2.1 hPP.out.2.2.2 rfl hm2.out hql.out rfl rfl rfl rfl ?_;intro g6 c6 w6 hP6 hgr6 hk6;replace hP6:=Lib.hid hP6;replace hgr6:=Lib.hid hgr6;replace hk6:=Lib.hid hk6)
   have hb6:=hb3.grown hgr6.out hb3.size (fun k h=>by have:=hk6.out k h;omega)
   have hpl:(Q m).length+2=(Q m++[[goneI true],lenL vs]).length:=by simp
   have hpk:(Q m).length+2≤1000000:=by rw [hQl.out m];omega
   refine (join_o g6 0 _ c6 _ hpl ht2.out hpk w6 (hP6.out.parts hpl)).mono ?_
   rintro e w7 ⟨v7,n7,rfl,ho7,hb7⟩
   rw [ht1.out] at ho7
   have hb8:=hb6.trans (hb7.mono hb6.size)
   have ho8:=Lib.hid (own_mono ho7 hb6.size)
   clear ho7 hpl hpk hb7 hb6 hb3 hP6 hgr6 hk6 hPP ht1 ht2
   go_wp2
   go_returns
   exact ⟨_,_,rfl,ho8.out,hb8⟩
  have hm0:(0:Int)≤(m:Int):=by omega
  have hm1:(m:Int)<(n1:Int):=by omega
  have hm2:m<n1:=by omega
  obtain ⟨g,o,rfl,hg,hc⟩:=(hD.out.2.below hb) (by omega)
  have c0:wr.cell? ⟨g,o+m*2,none⟩=some (.int .i64 (dD ds (m*2))):=hc (m*2) (by omega)
  have c1:wr.cell? ⟨g,o+m*2+1,none⟩=some (.int .i64 (dD ds (m*2+1))):=by rw [Nat.add_assoc];exact hc (m*2+1) (by omega)
  have hx:=hDr.out (m*2) (by omega)
  have hy:=hDr.out (m*2+1) (by omega)
  have hnx:=number_c _ hx.1 hx.2
  have hny:=number_c _ hy.1 hy.2
  have hqs:=hQs.out m
  have hql:(Q m).length≤10000000:=by rw [hQl.out m];omega
  replace hqs:=Lib.hid hqs
  replace hnx:=Lib.hid hnx
  replace hny:=Lib.hid hny
  have hgd0:u4.ownBlock≠some wr.heap.size:=fun h=>by have:=(hP.lt _ h).2;omega
  replace hP:=Lib.hid hP
  replace hql:=Lib.hid hql
  clear hx hy hc he hm
  generalize dD ds (m*2)=x at *
  generalize dD ds (m*2+1)=y at *
  go_wp2
  clear c0 c1 hg
  refine at_world (fun W1 hW=>?_)
  have hd:Blk W1 wr.heap.size 175 #[.int .i64 x,.int .i64 y]:=by rw [hW];exact Blk.new _ _ _
  have hbw:Below wr.heap.size wr W1:=by rw [hW];exact (Below.refl _ _).alloc (Nat.le_refl _) _
  clear hW
  replace hP:=Lib.hid ((hP.out.below hbw).below (st_drew W1))
  replace hG:=(hG.below hbw).drew
  replace hgg:=(hgg.below hbw).drew
  have hb1:=(hb.trans (hbw.mono hb.size)).drew
  replace hBs:B≤W1.drew.heap.size:=Nat.le_trans hBs hbw.size
  replace hd:=hd.drew
  clear hbw hb
  have hgd:some wr.heap.size≠u4.ownBlock:=fun h=>hgd0 h.symm
  replace hgd:=Lib.hid hgd
  clear hgd0
  generalize wr.heap.size=gd at *
  go_region_held3 (fun w'=>w'.cell? ⟨gd,0,none⟩=some (.int .i64 x)∧w'.cell? ⟨gd,1,none⟩=some (.int .i64 y)) (first | exact blk2 hd6 | exact blk2 (hd4.alloc _) | exact blk2 hd4 | exact blk2 hd3 | exact blk2 hd) (first | (go_at_call 217;refine (hnx.out _).mono ?_;rintro q w3 ⟨q1,m1,k1,rfl,hm1,hR1,hb3,hf1⟩;replace hm1:=Lib.hid hm1;replace hR1:=Lib.hid hR1;replace hf1:=Lib.hid hf1;have hd3:=hd.below hb3;clear hnx hd) | (go_at_call 217;refine (hny.out _).mono ?_;rintro q w4 ⟨q2,m2,k2,rfl,hm2',hR2,hb4,hf2⟩;replace hm2':=Lib.hid hm2';replace hR2:=Lib.hid hR2;replace hf2:=Lib.hid hf2;have hd4:=hd3.below hb4;clear hny hd3;have hPP:=Lib.hid (pown_two hP.out hBs hb3 hb4 hR1.out hR2.out hf1.out hf2.out)) | (refine step_pown hPP.out.1 hPP.out.2.1 hPP.out.2.2.1 hPP.out.2.2.2 hm1.out hm2'.out hql.out rfl rfl rfl rfl ?_;intro g6 c6 w6 hP6 hgr6 hk6;replace hP6:=Lib.hid hP6;replace hgr6:=Lib.hid hgr6;replace hk6:=Lib.hid hk6;have hd6:=Blk.grown hd4 hgr6.out hgd.out))
  have hs3:=hb3.size
  have hs4:=hb4.size
  have hs6:=hgr6.out.size
  have hG6:=Blk.grown ((hG.below hb3).below hb4) hgr6.out (fun h=>by have:=hk6.out _ h.symm;omega)
  have hgg6:=Blk.grown ((hgg.below hb3).below hb4) hgr6.out (fun h=>by have:=hk6.out _ h.symm;omega)
  have hbb:=hb1.trans (hb3.mono hb1.size)
  have hbb2:=hbb.trans (hb4.mono hbb.size)
  have hb6:=hbb2.grown hgr6.out hbb2.size (fun k h=>by have:=hk6.out k h;omega)
  have hBs6:B≤w6.heap.size:=by omega
  clear hG hgg hbb hbb2 hb1 hb3 hb4 hd4 hd6 hPP hR1 hR2 hf1 hf2 hm1 hm2' hgr6 hk6 hs3 hs4 hs6
  go_wp2
  exact ⟨⟨m+1,by omega,rfl,by rw [hqs.out];exact hP6.out,hG6,hgg6,hBs6,hb6⟩,by simp [intOf];omega⟩
end Go.Proofs.YtnopjabcdloepaaGreatDoor.Rc

namespace Go.Proofs.YtnopjabcdloepaaGreatDoor.Rc
open Go.RowKit
theorem shB_true {K:Nat} {cl sq:Int} {n1:Nat} {ds:List Int} {gone:Bool} {n2:Nat} (h:shB K cl sq n1 ds gone n2=true):(1≤K∧K≤64)∧(1≤cl∧cl≤8∧1≤sq∧sq≤1073741824)∧RightD n1 (dD ds)∧hasV n1 (dD ds) cl sq=false∧n2≤1024∧(gone=true→n2=0):=by
 unfold shB at h
 simp only [Bool.and_eq_true,decide_eq_true_eq,Bool.not_eq_true'] at h
 obtain ⟨h1,h2,h3,h4,h5,h6⟩:=h
 refine ⟨h1,of_decide_eq_true h2,of_decide_eq_true h3,h4,h5,fun hg=>?_⟩
 subst hg
 simpa using h6
theorem dots_range {n1:Nat} {ds:List Int} (h:RightD n1 (dD ds)):∀ i,i<2*n1→0≤dD ds i∧dD ds i<4611686018427387904:=fun i hi=>by
 have h1:=of_decide_eq_true (h (i / 2) (by omega)).1
 rcases Nat.mod_two_eq_zero_or_one i with hm | hm
 ·rw [show i / 2*2=i by omega] at h1;omega
 rw [show i / 2*2+1=i by omega] at h1;omega
def txtL (k:ByteArray) (cl sq:Int) (n1:Nat) (ds:List Int) (gone:Bool) (vs:List Int):List Int:=if shB k.size cl sq n1 ds gone vs.length then textL k cl sq n1 ds gone vs else []
set_option maxRecDepth 20000 in
set_option maxHeartbeats 4000000 in
theorem recText_o (k:ByteArray) (cl sq:Int) (p1:Option Addr) (n1 c1:Nat) (gone:Bool) (p2:Option Addr) (n2 c2:Nat) (p3:Option Addr) (n3 c3:Nat) (ds vs:List Int) (hn1:n1≤400000) (hn2:n2=vs.length) (w:World) (hD:DotsL w p1 n1 ds) (hV:BytesL w p2 vs) :
  Calls Tryz.prog 64 #[.agg #[.string k,.int .i64 cl,.int .i64 sq,.slice p1 n1 c1,.bool gone,.slice p2 n2 c2,.slice p3 n3 c3]] w (PostO (txtL k cl sq n1 ds gone vs) w):=by
 have hsh:=fun w' hb=>shaped_c k cl sq p1 n1 c1 gone p2 n2 c2 p3 n3 c3 ds (by omega) w' (hD.below (w:=w) (w':=w') hb)
 have htx:=fun w' hb h1 h2 h3 h4 h5 h6 h7=>text_o k cl sq p1 n1 c1 gone p2 n2 c2 p3 n3 c3 ds vs h1 h2 h3 h4 h5 hn1 hn2 h6 w' (hD.below (w:=w) (w':=w') hb) (hV.below hb) h7
 have htt:shB k.size cl sq n1 ds gone n2=true→txtL k cl sq n1 ds gone vs=textL k cl sq n1 ds gone vs:=fun h=>by unfold txtL;rw [← hn2,if_pos h]
 have htf:shB k.size cl sq n1 ds gone n2=false→txtL k cl sq n1 ds gone vs=[]:=fun h=>by unfold txtL;rw [← hn2,h];rfl
 replace hsh:=Lib.hid hsh
 replace htx:=Lib.hid htx
 replace htt:=Lib.hid htt
 replace htf:=Lib.hid htf
 clear hD hV hn2 hn1
 generalize txtL k cl sq n1 ds gone vs=T at *
 go_enter Tryz.func64,Tryz.ntmps64
 go_wp2_with fail
 refine calls_at (fun W0 hW=>?_)
 have hG:Blk W0 (w.heap.size+1) 155 #[.string k,.int .i64 cl,.int .i64 sq,.slice p1 n1 c1,.bool gone,.slice p2 n2 c2,.slice p3 n3 c3]:=by rw [hW];exact blk_at (by simp) (Blk.new _ _ _)
 have hb0:Below w.heap.size w W0:=by rw [hW];go_grown
 clear hW
 refine (hsh.out _ hb0).mono ?_
 rintro e w1 ⟨rfl,hb⟩
 replace hG:=hG.below hb
 replace hb0:=hb0.trans (hb.mono hb0.size)
 clear hb hsh
 cases hs:shB k.size cl sq n1 ds gone n2
 ·have ht:=Lib.hid (htf.out hs)
  clear hs
  go_wp2
  go_returns
  exact ⟨.slice none 0 0,0,rfl,by rw [ht.out];exact ownB_nil,hb0⟩
 have ht:=htt.out hs
 obtain ⟨h1,h2,h3,h4,h5,h6⟩:=shB_true hs
 have hx:=htx.out w1 hb0 h1.2 (by omega) (by omega) (by omega) (by omega) h5 (dots_range h3)
 rw [← ht] at hx
 replace hx:=Lib.hid hx
 obtain ⟨y0,y1,y2,y3,y4,y5,y6⟩:=blk7 hG
 clear hs ht h1 h2 h3 h4 h5 h6 htx htt htf
 go_wp2_with fail
 clear y0 y1 y2 y3 y4 y5 y6
 refine hx.out.mono ?_
 rintro e w2 ⟨v2,n2',rfl,ho,hb⟩
 have ho2:=Lib.hid (own_mono ho hb0.size)
 replace hb0:=hb0.trans (hb.mono hb0.size)
 clear ho hb
 go_wp2
 go_returns
 exact ⟨_,_,rfl,ho2.out,hb0⟩
theorem recText_c (k:ByteArray) (cl sq:Int) (p1:Option Addr) (n1 c1:Nat) (gone:Bool) (p2:Option Addr) (n2 c2:Nat) (p3:Option Addr) (n3 c3:Nat) (ds vs:List Int) (hn1:n1≤400000) (hn2:n2=vs.length) (w:World) (hD:DotsL w p1 n1 ds) (hV:BytesL w p2 vs) :
  Calls Tryz.prog 64 #[.agg #[.string k,.int .i64 cl,.int .i64 sq,.slice p1 n1 c1,.bool gone,.slice p2 n2 c2,.slice p3 n3 c3]] w (PostL (txtL k cl sq n1 ds gone vs) w) :=
 (recText_o k cl sq p1 n1 c1 gone p2 n2 c2 p3 n3 c3 ds vs hn1 hn2 w hD hV).mono fun _ _ h=>h.l
def rightR (K:Nat) (cl sq:Int) (n1:Nat) (ds:List Int) (gone:Bool) (n2 n3:Nat):Bool:=shB K cl sq n1 ds gone n2&&decide (n3=64)
set_option maxRecDepth 20000 in
set_option maxHeartbeats 4000000 in
theorem recRight_c (k:ByteArray) (cl sq:Int) (p1:Option Addr) (n1 c1:Nat) (gone:Bool) (p2:Option Addr) (n2 c2:Nat) (p3:Option Addr) (n3 c3:Nat) (ds:List Int) (hn1:n1≤400000) (w:World) (hD:DotsL w p1 n1 ds) :
  Calls Tryz.prog 63 #[.agg #[.string k,.int .i64 cl,.int .i64 sq,.slice p1 n1 c1,.bool gone,.slice p2 n2 c2,.slice p3 n3 c3]] w fun e w'=>e=.returned (.bool (rightR k.size cl sq n1 ds gone n2 n3))∧Below w.heap.size w w':=by
 have hsh:=fun w' hb=>shaped_c k cl sq p1 n1 c1 gone p2 n2 c2 p3 n3 c3 ds (by omega) w' (hD.below (w:=w) (w':=w') hb)
 replace hsh:=Lib.hid hsh
 clear hD
 obtain ⟨E,hE⟩:∃ E,E=rightR k.size cl sq n1 ds gone n2 n3:=⟨_,rfl⟩
 rw [← hE]
 unfold rightR at hE
 replace hE:=Lib.hid hE
 go_enter Tryz.func63,Tryz.ntmps63
 go_wp2_with fail
 refine calls_at (fun W0 hW=>?_)
 have hG:Blk W0 w.heap.size 45 #[.string k,.int .i64 cl,.int .i64 sq,.slice p1 n1 c1,.bool gone,.slice p2 n2 c2,.slice p3 n3 c3]:=by rw [hW];exact Blk.new _ _ _
 have hb0:Below w.heap.size w W0:=by rw [hW];exact (Below.refl _ _).alloc (Nat.le_refl _) _
 clear hW
 refine (hsh.out _ hb0).mono ?_
 rintro e w1 ⟨rfl,hb⟩
 replace hG:=hG.below hb
 replace hb0:=hb0.trans (hb.mono hb0.size)
 clear hb hsh
 obtain ⟨y0,y1,y2,y3,y4,y5,y6⟩:=blk7 hG
 cases hs:shB k.size cl sq n1 ds gone n2
 ·rw [hs,Bool.false_and] at hE
  clear hs
  go_wp2
  go_returns
  exact ⟨by rw [hE.out];rfl,hb0⟩
 rw [hs,Bool.true_and] at hE
 clear hs
 by_cases h:n3=64
 ·rw [decide_eq_true h] at hE
  subst h
  go_wp2
  go_returns
  exact ⟨by rw [hE.out];rfl,hb0⟩
 rw [decide_eq_false h] at hE
 have h64:((n3:Int)==64)=false:=by simp;omega
 go_wp2
 go_returns
 exact ⟨by rw [hE.out];rfl,hb0⟩
end Go.Proofs.YtnopjabcdloepaaGreatDoor.Rc

namespace Go.Proofs.YtnopjabcdloepaaGreatDoor.Rc
open Go.RowKit
theorem RowAt.grown {w w':World} {p:Option Addr} {m:Nat} {f:Nat→Value} {row:Option Nat} (h:RowAt w p m f) (hg:w.grownBy w' row) (hne:∀ ad,p=some ad→some ad.block≠row):RowAt w' p m f:=fun hm=>by
 obtain ⟨g,o,e,hlt,hc⟩:=h hm
 exact ⟨g,o,e,Nat.lt_of_lt_of_le hlt hg.size,fun j hj=>(hg.cell_far ⟨g,o+j,none⟩ hlt (by have:=hne _ e;exact this)).trans (hc j hj)⟩
theorem DotsL.grown {w w':World} {p:Option Addr} {n:Nat} {ds:List Int} {row:Option Nat} (h:DotsL w p n ds) (hg:w.grownBy w' row) (hne:∀ ad,p=some ad→some ad.block≠row):DotsL w' p n ds:=⟨h.1,RowAt.grown h.2 hg hne⟩
theorem BytesL.grown {w w':World} {p:Option Addr} {xs:List Int} {row:Option Nat} (h:BytesL w p xs) (hg:w.grownBy w' row) (hne:∀ ad,p=some ad→some ad.block≠row):BytesL w' p xs:=RowAt.grown h hg hne
theorem rec_size:(Tryz.prog.info? 45).map (·.size)=some 7:=by kernel_rfl
theorem rec_under:∃ d,Tryz.prog.underlying 45=some d∧(match d with | .struct _ | .array _ _=>true | _=>false)=true:=by
 cases h:Tryz.prog.underlying 45 with
 | none=>exact absurd (show (Tryz.prog.underlying 45).isSome=true by kernel_rfl) (by rw [h];decide)
 | some d=>exact ⟨d,rfl,by
   have:=show (match Tryz.prog.underlying 45 with | some (.struct _) | some (.array _ _)=>true | _=>false)=true by kernel_rfl
   rw [h] at this
   cases d <;> simp_all⟩
theorem retRec {fn:Func} {p:Tmp} {g:Nat} {tmps:Array Value} {D:List Deferred} {w:World} {R:Ending→World→Prop} {x0 x1 x2 x3 x4 x5 x6:Value} (h:fn.results=#[.cell p 45]) (hp:tmps.getD p undef=.pointer (some ⟨g,0,none⟩)) (hg:Blk w g 45 #[x0,x1,x2,x3,x4,x5,x6]) (hD:D=[]) (hR:R (.returned (.agg #[x0,x1,x2,x3,x4,x5,x6])) w):bodyPost Tryz.prog fn R .ret ⟨tmps,D⟩ w:=by
 obtain ⟨d,hd,hs⟩:=rec_under
 exact bodyPost_ret (results_cell_row h tmps w g 45 #[x0,x1,x2,x3,x4,x5,x6] (0,0) d hp hg hd (by revert hs;cases d <;> exact fun h=>h) rec_size) hD hR
theorem stRec {ops:Array Oper} {rest:List Oper} {o:Oper} {a:Act} {w:World} {Q:Exit→Act→World→Prop} (hgd:o.guard=none) {x y:Operand} (ho:o.op=.store 45 x y) {g:Nat} {x0 x1 x2 x3 x4 x5 x6:Value} {old:Array Value} (hx:a.eval x=.pointer (some ⟨g,0,none⟩)) (hy:a.eval y=.agg #[x0,x1,x2,x3,x4,x5,x6]) (hg:Blk w g 45 old) (hs:old.size=7) (h1:(#[x0,x1,x2,x3,x4,x5,x6]:Array Value).all (·.oneCell')=true)
  (h:∀ w',Blk w' g 45 #[x0,x1,x2,x3,x4,x5,x6]→w.grownBy w' (some g)→w'.heap.size=w.heap.size→wpList Tryz.prog ops Q rest (a.put o.dst undef) w'):wpList Tryz.prog ops Q (o::rest) a w :=
 wpList_store_blk hgd 45 x y ho g 45 old _ hx hy hg hs rec_size h1 h
def PostR (k:ByteArray) (cl sq:Int) (n1:Nat) (gone:Bool) (ds vs ss:List Int) (w:World) (e:Ending) (w':World):Prop:=∃ q1 d1 q2 d2 q3 d3,e=.returned (.agg #[.string k,.int .i64 cl,.int .i64 sq,.slice q1 n1 d1,.bool gone,.slice q2 vs.length d2,.slice q3 ss.length d3])∧DotsL w' q1 n1 ds∧BytesL w' q2 vs∧BytesL w' q3 ss∧Below w.heap.size w w'
def sameR (k:ByteArray) (cl sq:Int) (ds:List Int) (gone:Bool) (vs ss:List Int) (kb:ByteArray) (clb sqb:Int) (dsb:List Int) (goneb:Bool) (vsb ssb:List Int):Bool :=
 decide (k.toList=kb.toList)&&(decide (cl=clb)&&(decide (sq=sqb)&&(eqL ds dsb&&((gone==goneb)&&(eqL vs vsb&&eqL ss ssb)))))
set_option maxRecDepth 20000 in
set_option maxHeartbeats 8000000 in
theorem sameRec_c (k:ByteArray) (cl sq:Int) (p1:Option Addr) (n1 c1:Nat) (gone:Bool) (p2:Option Addr) (n2 c2:Nat) (p3:Option Addr) (n3 c3:Nat) (kb:ByteArray) (clb sqb:Int) (pb1:Option Addr) (nb1 cb1:Nat) (goneb:Bool) (pb2:Option Addr) (nb2 cb2:Nat) (pb3:Option Addr) (nb3 cb3:Nat) (ds vs ss dsb vsb ssb:List Int) (hn1:n1≤400000) (hnb1:nb1≤400000) (hn2:n2=vs.length) (hn2':n2≤1000000) (hn3:n3=ss.length) (hn3':n3≤1000000) (hnb2:nb2=vsb.length) (hnb2':nb2≤1000000) (hnb3:nb3=ssb.length) (hnb3':nb3≤1000000)
  (w:World) (hD:DotsL w p1 n1 ds) (hV:BytesL w p2 vs) (hS:BytesL w p3 ss) (hDb:DotsL w pb1 nb1 dsb) (hVb:BytesL w pb2 vsb) (hSb:BytesL w pb3 ssb) :
  Calls Tryz.prog 36 #[.agg #[.string k,.int .i64 cl,.int .i64 sq,.slice p1 n1 c1,.bool gone,.slice p2 n2 c2,.slice p3 n3 c3],.agg #[.string kb,.int .i64 clb,.int .i64 sqb,.slice pb1 nb1 cb1,.bool goneb,.slice pb2 nb2 cb2,.slice pb3 nb3 cb3]] w fun e w'=>e=.returned (.bool (sameR k cl sq ds gone vs ss kb clb sqb dsb goneb vsb ssb))∧Below w.heap.size w w':=by
 have cd:=fun w' hb=>sameDots_c p1 pb1 n1 c1 nb1 cb1 ds dsb (by omega) (by omega) w' (hD.below (w:=w) (w':=w') hb) (hDb.below hb)
 have cv:=fun w' hb=>sameBytes_c p2 pb2 n2 c2 nb2 cb2 vs vsb hn2 hnb2 hn2' hnb2' w' (hV.below (w:=w) (w':=w') hb) (hVb.below hb)
 have csg:=fun w' hb=>sameBytes_c p3 pb3 n3 c3 nb3 cb3 ss ssb hn3 hnb3 hn3' hnb3' w' (hS.below (w:=w) (w':=w') hb) (hSb.below hb)
 obtain ⟨E,hE⟩:∃ E,E=sameR k cl sq ds gone vs ss kb clb sqb dsb goneb vsb ssb:=⟨_,rfl⟩
 rw [← hE]
 unfold sameR at hE
 generalize eqL ds dsb=e1 at *
 generalize eqL vs vsb=e2 at *
 generalize eqL ss ssb=e3 at *
 replace cd:=Lib.hid cd
 replace cv:=Lib.hid cv
 replace csg:=Lib.hid csg
 replace hE:=Lib.hid hE
 clear hD hV hS hDb hVb hSb hn2 hn2' hn3 hn3' hnb2 hnb2' hnb3 hnb3' hn1 hnb1
 go_enter Tryz.func36,Tryz.ntmps36
 by_cases hk:k.toList=kb.toList
 ·rw [decide_eq_true hk,Bool.true_and] at hE
  have hkk:(k.toList==kb.toList)=true:=by rw [hk];exact beq_self_eq_true _
  clear hk
  by_cases hc:cl=clb
  ·rw [decide_eq_true hc,Bool.true_and] at hE
   subst hc
   by_cases hs:sq=sqb
   ·rw [decide_eq_true hs,Bool.true_and] at hE
    subst hs
    go_wp2_with fail
    refine calls_at (fun W0 hW=>?_)
    have hA:Blk W0 w.heap.size 45 #[.string k,.int .i64 cl,.int .i64 sq,.slice p1 n1 c1,.bool gone,.slice p2 n2 c2,.slice p3 n3 c3]:=by rw [hW];exact (Blk.new _ _ _).alloc _
    have hB:Blk W0 (w.heap.size+1) 45 #[.string kb,.int .i64 cl,.int .i64 sq,.slice pb1 nb1 cb1,.bool goneb,.slice pb2 nb2 cb2,.slice pb3 nb3 cb3]:=by rw [hW];exact blk_at (by simp) (Blk.new _ _ _)
    have hb0:Below w.heap.size w W0:=by rw [hW];go_grown
    clear hW
    refine (cd.out _ hb0).mono ?_
    rintro e w1 ⟨rfl,hb⟩
    replace hA:=hA.below hb
    replace hB:=hB.below hb
    replace hb0:=hb0.trans (hb.mono hb0.size)
    clear hb cd
    obtain ⟨y0,y1,y2,y3,y4,y5,y6⟩:=blk7 hA
    obtain ⟨z0,z1,z2,z3,z4,z5,z6⟩:=blk7 hB
    cases e1
    ·rw [Bool.false_and] at hE
     go_wp2
     go_returns
     exact ⟨by rw [hE.out];rfl,hb0⟩
    rw [Bool.true_and] at hE
    cases hgg:(gone==goneb)
    ·rw [hgg,Bool.false_and] at hE
     have hgg2:gone≠goneb:=by simpa using hgg
     go_wp2
     go_returns
     exact ⟨by rw [hE.out];rfl,hb0⟩
    rw [hgg,Bool.true_and] at hE
    obtain rfl:gone=goneb:=by simpa using hgg
    go_wp2_with fail
    clear y0 y1 y2 y3 y4 y5 y6 z0 z1 z2 z3 z4 z5 z6
    refine (cv.out _ hb0).mono ?_
    rintro e w2 ⟨rfl,hb⟩
    replace hA:=hA.below hb
    replace hB:=hB.below hb
    replace hb0:=hb0.trans (hb.mono hb0.size)
    clear hb cv
    obtain ⟨y0,y1,y2,y3,y4,y5,y6⟩:=blk7 hA
    obtain ⟨z0,z1,z2,z3,z4,z5,z6⟩:=blk7 hB
    cases e2
    ·rw [Bool.false_and] at hE
     go_wp2
     go_returns
     exact ⟨by rw [hE.out];rfl,hb0⟩
    rw [Bool.true_and] at hE
    go_wp2_with fail
    clear y0 y1 y2 y3 y4 y5 y6 z0 z1 z2 z3 z4 z5 z6
    refine (csg.out _ hb0).mono ?_
    rintro e w3 ⟨rfl,hb⟩
    go_wp2
    go_returns
    exact ⟨by rw [hE.out];rfl,hb0.trans (hb.mono hb0.size)⟩
   rw [decide_eq_false hs,Bool.false_and] at hE
   have hs2:(sq==sqb)=false:=beq_false_of_ne hs
   clear cd cv csg
   go_wp2
   go_returns
   exact ⟨by rw [hE.out];rfl,by go_grown⟩
  rw [decide_eq_false hc,Bool.false_and] at hE
  have hc2:(cl==clb)=false:=beq_false_of_ne hc
  clear cd cv csg
  go_wp2
  go_returns
  exact ⟨by rw [hE.out];rfl,by go_grown⟩
 rw [decide_eq_false hk,Bool.false_and] at hE
 have hkk:(k.toList==kb.toList)=false:=beq_false_of_ne hk
 clear cd cv csg hk
 go_wp2
 go_returns
 exact ⟨by rw [hE.out];rfl,by go_grown⟩
end Go.Proofs.YtnopjabcdloepaaGreatDoor.Rc

namespace Go.Proofs.YtnopjabcdloepaaGreatDoor.Rc
open Go.RowKit
def dotL (xs:List Int):List Value:=xs.map (.int .i64 ·)
theorem dotL_len (xs:List Int):(dotL xs).length=xs.length:=by simp [dotL]
theorem dotL_one (xs:List Int):∀ u∈dotL xs,u.oneCell'=true:=fun u hu=>by
 obtain ⟨j,_,rfl⟩:=List.mem_map.1 hu
 rfl
theorem add_lit2 (g o j:Nat):(⟨g,o,none⟩:Addr).add j=⟨g,o+j,none⟩:=add_o g o j
theorem dotL_app (xs ys:List Int):dotL xs++dotL ys=dotL (xs++ys):=by simp [dotL]
theorem run_appD2 (w:World) (ty:TypeId) (base:Nat) (v:Value) (n:Nat) (ys xs:List Int) (hown:w.ownsRow base 175 2 v n (dotL ys)) (p:Option Addr) (m c:Nat) (hX:DotsL w p m xs)
  (hb:n+m≤100000000) (hbase:base≤w.heap.size) :
  ∃ v' w',(Builtin.append_ #[43,43] ty #[v,.slice p m c]).run Tryz.prog w=.ok v' w'∧w'.ownsRow base 175 2 v' (n+m) (dotL (ys++xs))∧w.grownBy w' v.ownBlock∧(v'.ownBlock=v.ownBlock∨v'.ownBlock=some w.heap.size):=by
 obtain ⟨i,hi,hz,hs,hby⟩:=info_parts dot_info
 have hxl:=hX.1
 have hone:∀ ad:Addr,(∀ j u,(dotL xs)[j]?=some u→w.cell? (ad.add j)=some u)→p=some ad→∃ v' w',(Builtin.append_ #[43,43] ty #[v,.slice p m c]).run Tryz.prog w=.ok v' w'∧w'.ownsRow base 175 2 v' (n+m) (dotL (ys++xs))∧w.grownBy w' v.ownBlock∧(v'.ownBlock=v.ownBlock∨v'.ownBlock=some w.heap.size):=fun ad h hp=>by
  subst hp
  obtain ⟨v',w',h1,h2,h3,h4,h5⟩:=run_append_own_at (P:=Tryz.prog) w base 43 ty 175 i (.agg #[.int .i64 0,.int .i64 0]) 2 16 ds_under hi hz hs hby rfl (by decide) v n (dotL ys) hown ad m c (dotL xs) (by rw [dotL_len,hxl];omega) h (dotL_one xs) (by unfold maxLen;omega) (by omega) hbase
  exact ⟨v',w',h1,by rw [← dotL_app];exact h2,h3,h5⟩
 by_cases h0:m=0
 ·subst h0
  obtain rfl:xs=[]:=List.eq_nil_of_length_eq_zero (by omega)
  cases p with
  | some ad=>exact hone ad (fun j u hu=>by simp [dotL] at hu) rfl
  | none =>
   rcases hown with ⟨hl,⟨rfl,rfl⟩ | ⟨g,cap,cur,rfl,h1,h2,h3,h4,h5,h6⟩⟩
   ·refine ⟨.slice none 0 0,w,?_,⟨by simpa using hl,.inl ⟨rfl,rfl⟩⟩,⟨rfl,rfl,rfl,Nat.le_refl _,fun _ _ _=>rfl⟩,.inl rfl⟩
    simp [Builtin.append_,run_underlying ds_under,sizeOf,typeInfo,hi,Builtin.lenOf,Builtin.firstCells]
   have hr:=run_append_room_src (P:=Tryz.prog) w 43 43 ty 175 i ds_under hi g 0 n cap (.slice none 0 c) 0 [] (Src.ofNil w ds_under c) (by omega) (fun j hj=>absurd hj (by simp)) (fun j hj=>absurd hj (by simp))
   simp only [Nat.add_zero,World.setCells] at hr
   exact ⟨_,w,hr,⟨by simpa using hl,.inr ⟨g,cap,cur,rfl,h1,h2,h3,h4,h5,by simpa using h6⟩⟩,⟨rfl,rfl,rfl,Nat.le_refl _,fun _ _ _=>rfl⟩,.inl rfl⟩
 obtain ⟨g,o,rfl,_,hc⟩:=hX.2 (by omega)
 refine hone _ (fun j u hu=>?_) rfl
 rw [add_lit2]
 have hj:j<xs.length:=by
  rcases Nat.lt_or_ge j xs.length with h | h
  ·exact h
  rw [List.getElem?_eq_none (by rw [dotL_len];exact h)] at hu
  cases hu
 rw [hc j (by omega),← hu]
 simp [dotL,hj]
section
variable {ops:Array Oper} {rest:List Oper} {o:Oper} {a:Act} {w:World} {Q:Exit→Act→World→Prop}
theorem wpList_appD2 (hgd:o.guard=none) {s x:Operand} (ho:o.op=.call { callee:=.builtin .append,args:=#[s,x],argTypes:=#[43,43] }) {v:Value} (hs:a.eval s=v) {base n:Nat} {ys xs:List Int} (hown:w.ownsRow base 175 2 v n (dotL ys))
  {p:Option Addr} {m c:Nat} (hx:a.eval x=.slice p m c) (hX:DotsL w p m xs) (hb:n+m≤100000000) (hbase:base≤w.heap.size)
  (h:∀ v' w',w'.ownsRow base 175 2 v' (n+m) (dotL (ys++xs))→w.grownBy w' v.ownBlock→(v'.ownBlock=v.ownBlock∨v'.ownBlock=some w.heap.size)→wpList Tryz.prog ops Q rest (a.put o.dst v') w'):wpList Tryz.prog ops Q (o::rest) a w :=
 wpList_plain hgd fun _ hK=>by
  obtain ⟨v',w',hr,h2,h3,h4⟩:=run_appD2 w o.type base v n ys xs hown p m c hX hb hbase
  unfold Oper.wp execOp
  simp only [ho,resolve,invoke,builtin,Sem.run_bind,Sem.run_pure,Result.andThen_ok,List.map_toArray,List.map_cons,List.map_nil,hs,hx,hr]
  exact hK _ _ (h v' w' h2 h3 h4)
end
end Go.Proofs.YtnopjabcdloepaaGreatDoor.Rc
