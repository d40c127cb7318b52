import Derived.Test.YtnopjabcdloepaaGreatDoorRows
import Derived.Test.YtnopjabcdloepaaGreatDoorYb
import Derived.WalkKit
import Derived.WalkSpells
import Derived.WalkLawsBesides
import Derived.RegionTactic
import Derived.ChangeAlike
import Derived.BigRegion
import Derived.Handy
import Derived.Lib.Hide
import Derived.LoopTactic
import Derived.Deep.RegionHeld3
import Derived.Deep.RegionWith
import Derived.Deep.AppendLies
import Derived.Laws.OwnMore
import Derived.IntWalk
import Derived.Deep.AppendSrc
import Derived.Lib.AppendZeros
import Derived.Laws.AppendOwn
namespace Go.Proofs.YtnopjabcdloepaaGreatDoor.Rc
open Go.RowKit
def RowAt (w:World) (p:Option Addr) (m:Nat) (f:Nat→Value):Prop:=0<m→∃ g o,p=some ⟨g,o,none⟩∧g<w.heap.size∧∀ j,j<m→w.cell? ⟨g,o+j,none⟩=some (f j)
theorem RowAt.below {w w':World} {p:Option Addr} {m:Nat} {f:Nat→Value} (h:RowAt w p m f) (hb:Below w.heap.size w w'):RowAt w' p m f:=fun hm=>by
 obtain ⟨g,o,e,hg,hc⟩:=h hm
 exact ⟨g,o,e,Nat.lt_of_lt_of_le hg hb.size,fun j hj=>(hb.cell (p:=⟨g,o+j,none⟩) hg).trans (hc j hj)⟩
theorem RowAt.drew {w:World} {p:Option Addr} {m:Nat} {f:Nat→Value} (h:RowAt w p m f):RowAt w.drew p m f:=h
theorem blk2 {w:World} {g:Nat} {t:TypeId} {x y:Value} (h:Blk w g t #[x,y]):w.cell? ⟨g,0,none⟩=some x∧w.cell? ⟨g,1,none⟩=some y:=⟨h.cell 0,h.cell 1⟩
def DotsAt (w:World) (p:Option Addr) (n:Nat) (D:Nat→Int):Prop:=RowAt w p (2*n) (fun j=>.int .i64 (D j))
def BytesAt (w:World) (p:Option Addr) (n:Nat) (b:Nat→Int):Prop:=RowAt w p n (fun j=>.int .u8 (b j))
theorem DotsAt.below {w w':World} {p:Option Addr} {n:Nat} {D:Nat→Int} (h:DotsAt w p n D) (hb:Below w.heap.size w w'):DotsAt w' p n D:=RowAt.below h hb
theorem BytesAt.below {w w':World} {p:Option Addr} {n:Nat} {b:Nat→Int} (h:BytesAt w p n b) (hb:Below w.heap.size w w'):BytesAt w' p n b:=RowAt.below h hb
def cmpI (a b:Int):Int:=if a<b then -1 else if b<a then 1 else 0
set_option maxHeartbeats 1000000 in
theorem compare_c (a b:Int) (w:World):Calls Tryz.prog 362 #[.int .i64 a,.int .i64 b] w fun e w'=>e=.returned (.int .i64 (cmpI a b))∧w'=w:=by
 go_enter Tryz.func362,Tryz.ntmps362
 by_cases h1:a<b
 ·have h3:cmpI a b = -1:=if_pos h1
  rw [h3]
  clear h3
  go_wp2
  go_returns
  exact ⟨rfl,rfl⟩
 by_cases h2:b<a
 ·have h3:cmpI a b=1:=by unfold cmpI;rw [if_neg h1,if_pos h2]
  rw [h3]
  clear h3
  go_wp2
  go_returns
  exact ⟨rfl,rfl⟩
 have h3:cmpI a b=0:=by unfold cmpI;rw [if_neg h1,if_neg h2]
 rw [h3]
 clear h3
 go_wp2
 go_returns
 exact ⟨rfl,rfl⟩
def okD (c s:Int):Bool:=decide (1≤c∧c≤8∧1≤s∧s≤1073741824)
set_option maxHeartbeats 1000000 in
theorem right_c (c s:Int) (w:World):Calls Tryz.prog 298 #[.agg #[.int .i64 c,.int .i64 s]] w fun e w'=>e=.returned (.bool (okD c s))∧Below w.heap.size w w':=by
 go_enter Tryz.func298,Tryz.ntmps298
 go_wp2
 all_goals
  go_returns
  refine ⟨?_,by go_grown⟩
  first
   | (rw [show okD c s=true from decide_eq_true (by omega)];rfl)
   | (rw [show okD c s=false from decide_eq_false (by omega)];rfl)
   | (rw [show okD c s=decide (s≤1073741824) from decide_eq_decide.2 ⟨fun h=>by omega,fun h=>by omega⟩];rfl)
def dr1L (x y:Int):List (Value→World→Prop):=[
 Eq1 (.agg #[.int .i64 x,.int .i64 y]),
 Eq1 (.bool false),
 Eq1 (.bool true),
 Eq1 (.bool true),
 Eq1 (undef),
 Eq1 (undef),
 Eq1 (undef),
 Eq1 (undef),
 Eq1 (undef),
 Eq1 (undef),
 Eq1 (undef),
 Eq1 (undef),
 Eq1 (undef),
 Eq1 (undef),
 Eq1 (undef),
 Eq1 (undef),
 Eq1 (undef),
 Eq1 (.bool true)]
theorem dr1S (x y:Int):∀ j x' q q',(dr1L x y).getD j (fun _ _=>True) x' q→Below q.heap.size q q'→(dr1L x y).getD j (fun _ _=>True) x' q':=by
 refine sta_all _ ?_
 simp only [dr1L,List.mem_cons,forall_eq_or_imp,List.not_mem_nil,false_implies,implies_true,and_true]
 exact ⟨sta_eq _,sta_eq _,sta_eq _,sta_eq _,sta_eq _,sta_eq _,sta_eq _,sta_eq _,sta_eq _,sta_eq _,sta_eq _,sta_eq _,sta_eq _,sta_eq _,sta_eq _,sta_eq _,sta_eq _,sta_eq _⟩
def dr2L (x y:Int) (m:Nat):List (Value→World→Prop):=[
 Eq1 (.agg #[.int .i64 x,.int .i64 y]),
 Eq1 (.bool true),
 Eq1 (.bool false),
 Eq1 (.bool false),
 Eq1 (.int .i64 m),
 Eq1 (.bool false),
 Eq1 (.bool false),
 Eq1 (undef),
 Eq1 (undef),
 Eq1 (undef),
 Eq1 (undef),
 Eq1 (undef),
 Eq1 (undef),
 Eq1 (undef),
 Eq1 (undef),
 Eq1 (undef),
 Eq1 (.bool false),
 Eq1 (.bool false)]
theorem dr2S (x y:Int) (m:Nat):∀ j x' q q',(dr2L x y m).getD j (fun _ _=>True) x' q→Below q.heap.size q q'→(dr2L x y m).getD j (fun _ _=>True) x' q':=by
 refine sta_all _ ?_
 simp only [dr2L,List.mem_cons,forall_eq_or_imp,List.not_mem_nil,false_implies,implies_true,and_true]
 exact ⟨sta_eq _,sta_eq _,sta_eq _,sta_eq _,sta_eq _,sta_eq _,sta_eq _,sta_eq _,sta_eq _,sta_eq _,sta_eq _,sta_eq _,sta_eq _,sta_eq _,sta_eq _,sta_eq _,sta_eq _,sta_eq _⟩
def dr3L (x y z:Int) (g o n c m k G:Nat):List (Value→World→Prop):=[
 Eq1 (.agg #[.int .i64 x,.int .i64 y]),
 Eq1 (.bool true),
 Eq1 (.bool false),
 Eq1 (.bool false),
 Eq1 (.int .i64 m),
 Eq1 (.bool true),
 Eq1 (.bool true),
 Eq1 (.slice (some ⟨g,o,none⟩) n c),
 Eq1 (.int .i64 m),
 Eq1 (.int .i64 k),
 Eq1 (.pointer (some ⟨g,o+k*2,none⟩)),
 Eq1 (.pointer (some ⟨g,o+k*2,none⟩)),
 Eq1 (.int .i64 z),
 Eq1 (.pointer (some ⟨G,0,none⟩)),
 Eq1 (.int .i64 x),
 Eq1 (.bool false),
 Eq1 (.bool false),
 Eq1 (.bool false)]
theorem dr3S (x y z:Int) (g o n c m k G:Nat):∀ j x' q q',(dr3L x y z g o n c m k G).getD j (fun _ _=>True) x' q→Below q.heap.size q q'→(dr3L x y z g o n c m k G).getD j (fun _ _=>True) x' q':=by
 refine sta_all _ ?_
 simp only [dr3L,List.mem_cons,forall_eq_or_imp,List.not_mem_nil,false_implies,implies_true,and_true]
 exact ⟨sta_eq _,sta_eq _,sta_eq _,sta_eq _,sta_eq _,sta_eq _,sta_eq _,sta_eq _,sta_eq _,sta_eq _,sta_eq _,sta_eq _,sta_eq _,sta_eq _,sta_eq _,sta_eq _,sta_eq _,sta_eq _⟩
def dr4L (x y z:Int) (g o n c m k G:Nat):List (Value→World→Prop):=[
 Eq1 (.agg #[.int .i64 x,.int .i64 y]),
 Eq1 (.bool true),
 Eq1 (.bool false),
 Eq1 (.bool false),
 Eq1 (.int .i64 m),
 Eq1 (.bool true),
 Eq1 (.bool true),
 Eq1 (.slice (some ⟨g,o,none⟩) n c),
 Eq1 (.int .i64 m),
 Eq1 (.int .i64 k),
 Eq1 (.pointer (some ⟨g,o+k*2,none⟩)),
 Eq1 (.pointer (some ⟨g,o+k*2,none⟩)),
 Eq1 (.int .i64 z),
 Eq1 (.pointer (some ⟨G,0,none⟩)),
 Eq1 (.int .i64 x),
 Eq1 (.bool true),
 Eq1 (.bool true),
 Eq1 (.bool true)]
theorem dr4S (x y z:Int) (g o n c m k G:Nat):∀ j x' q q',(dr4L x y z g o n c m k G).getD j (fun _ _=>True) x' q→Below q.heap.size q q'→(dr4L x y z g o n c m k G).getD j (fun _ _=>True) x' q':=by
 refine sta_all _ ?_
 simp only [dr4L,List.mem_cons,forall_eq_or_imp,List.not_mem_nil,false_implies,implies_true,and_true]
 exact ⟨sta_eq _,sta_eq _,sta_eq _,sta_eq _,sta_eq _,sta_eq _,sta_eq _,sta_eq _,sta_eq _,sta_eq _,sta_eq _,sta_eq _,sta_eq _,sta_eq _,sta_eq _,sta_eq _,sta_eq _,sta_eq _⟩
def RightD (n:Nat) (D:Nat→Int):Prop:=∀ i,i<n→okD (D (i*2)) (D (i*2+1))=true∧(0<i→D ((i-1)*2)<D (i*2))
instance (n:Nat) (D:Nat→Int):Decidable (RightD n D):=inferInstanceAs (Decidable (∀ i,i<n→_))
def rightD (n:Nat) (D:Nat→Int):Bool:=decide (RightD n D)
set_option maxRecDepth 20000 in
set_option maxHeartbeats 2000000 in
theorem dotsRight_c (p:Option Addr) (n c:Nat) (D:Nat→Int) (hn:n≤1000000) (w:World) (hD:DotsAt w p n D):Calls Tryz.prog 297 #[.slice p n c] w fun e w'=>e=.returned (.bool (rightD n D))∧Below w.heap.size w w':=by
 go_enter Tryz.func297,Tryz.ntmps297
 go_wp2
 go_loopw [7] (fun i wr=>∃ m:Nat,m≤n∧i=.int .i64 m∧RightD m D∧Below w.heap.size w wr) (fun i _=>(n-intOf i).toNat)
 case atStart=>exact ⟨0,by omega,rfl,fun i hi=>by omega,Below.refl _ _⟩
 case round =>
  obtain ⟨m,hm,hi,hR,hb⟩:=hrel
  subst hi
  by_cases he:m=n
  ·subst he
   have hf:rightD m D=true:=decide_eq_true hR
   replace hf:=Lib.hid hf
   clear hR hm
   go_wp2
   go_returns
   exact ⟨by rw [hf.out];rfl,hb⟩
  have hm0:(0:Int)≤(m:Int):=by omega
  have hm1:(m:Int)<(n:Int):=by omega
  have hm2:m<n:=by omega
  clear hm he
  obtain ⟨g,o,rfl,hg,hc⟩:=(hD.below hb) (by omega)
  have c0:=hc (m*2) (by omega)
  have c1:=hc (m*2+1) (by omega)
  rw [← Nat.add_assoc] at c1
  have hpre:0<m→wr.cell? ⟨g,o+(m-1)*2,none⟩=some (.int .i64 (D ((m-1)*2))):=fun h=>hc ((m-1)*2) (by omega)
  clear hc hD
  have hnext:okD (D (m*2)) (D (m*2+1))=true→(0<m→D ((m-1)*2)<D (m*2))→RightD (m+1) D:=fun h1 h2 i hi=>by
   rcases Nat.lt_or_ge i m with h | h
   ·exact hR i h
   obtain rfl:i=m:=by omega
   exact ⟨h1,h2⟩
  have hstop:¬ (okD (D (m*2)) (D (m*2+1))=true∧(0<m→D ((m-1)*2)<D (m*2)))→rightD n D=false:=fun h=>decide_eq_false fun hr=>h (hr m hm2)
  have hrt:=right_c (D (m*2)) (D (m*2+1))
  replace hnext:=Lib.hid hnext
  replace hstop:=Lib.hid hstop
  replace hpre:=Lib.hid hpre
  clear hR
  go_wp2
  clear c0 c1
  refine at_world (fun W0 hW=>?_)
  have hG:Blk W0 wr.heap.size 175 #[.int .i64 (D (m*2)),.int .i64 (D (m*2+1))]:=by rw [hW];exact Blk.new _ _ _
  have hb0:Below w.heap.size w W0:=by rw [hW];exact hb.alloc hb.size _
  have hg0:g<W0.heap.size:=by rw [hW];simp;omega
  replace hpre:0<m→W0.cell? ⟨g,o+(m-1)*2,none⟩=some (.int .i64 (D ((m-1)*2))):=fun h=>by
   rw [hW]
   exact (((Below.refl wr.heap.size wr).alloc (Nat.le_refl _) _).cell (p:=⟨g,o+(m-1)*2,none⟩) hg).trans (hpre.out h)
  clear hW hb hg
  generalize wr.heap.size=G at *
  generalize D (m*2)=x at *
  generalize D (m*2+1)=y at *
  cases hok:okD x y
  ·have hf:=hstop.out (fun h=>by rw [hok] at h;cases h.1)
   rw [hok] at hrt
   replace hf:=Lib.hid hf
   replace hrt:=Lib.hid hrt
   clear hpre hnext hstop hok
   refine wp_region_grow2 18 (fun k=>(Nat.ble 12 k&&Nat.ble k 29)) _ [] (fun j x' q=>(dr1L x y).getD j (fun _ _=>True) x' q) (fun _=>false) (fun f=>#[.slice (some ⟨g,o,none⟩) n c,undef,u2,.int .i64 m,.pointer (some ⟨G,0,none⟩),.slice (some ⟨g,o,none⟩) n c,.int .i64 n,.int .i64 m,.bool true,.int .i64 m,.pointer (some ⟨g,o+m*2,none⟩),.agg #[.int .i64 x,.int .i64 y],f 12,f 13,f 14,f 15,f 16,f 17,f 18,f 19,f 20,f 21,f 22,f 23,f 24,f 25,f 26,f 27,f 28,f 29,u30]) (fun f=>rfl) (by kernel_rfl) (by kernel_rfl) (by kernel_rfl) (by kernel_rfl) (by kernel_rfl) (dr1S _ _) (fun _ _ _ h=>by cases h) ?_ ?_
   ·refine steps2_cons ?_ ?_
    ·intro f w1 hb hd Q hK
     clear hd
     have hK:=Lib.hid hK
     obtain ⟨c0,c1⟩:=blk2 (hG.below hb)
     go_wp2
     exact hK.out _ _ rfl (.refl _ _) nof
    refine steps2_cons ?_ ?_
    ·intro f w1 hb hd Q hK
     have e12:f 12=.agg #[.int .i64 x,.int .i64 y]:=hd.1 rfl
     clear hd
     simp only [e12] at hK
     have hK:=Lib.hid hK
     go_wp2_with fail
     refine (hrt.out _).mono ?_
     rintro e w2 ⟨rfl,hb2⟩
     go_wp2
     exact hK.out _ _ rfl hb2 nof
    refine steps2_cons ?_ ?_
    ·intro f w1 hb hd Q hK
     have e13:f 13=.bool false:=hd.1 rfl
     clear hd
     simp only [e13] at hK
     have hK:=Lib.hid hK
     go_wp2
     exact hK.out _ _ rfl (.refl _ _) nof
    refine steps2_cons ?_ ?_
    ·intro f w1 hb hd Q hK
     have e14:f 14=.bool true:=hd.1 rfl
     clear hd
     simp only [e14] at hK
     have hK:=Lib.hid hK
     go_wp2
     exact hK.out _ _ rfl (.refl _ _) nof
    refine steps2_cons ?_ ?_
    ·intro f w1 hb hd Q hK
     have e15:f 15=.bool true:=hd.1 rfl
     clear hd
     simp only [e15] at hK
     have hK:=Lib.hid hK
     go_wp2
     exact hK.out _ _ rfl (.refl _ _) nof
    refine steps2_cons ?_ ?_
    ·intro f w1 hb hd Q hK
     have e16:f 16=undef:=hd.1 rfl
     have e15:f 15=.bool true:=hd.2.1 rfl
     clear hd
     simp only [e16,e15] at hK
     have hK:=Lib.hid hK
     go_wp2
     exact hK.out _ _ rfl (.refl _ _) nof
    refine steps2_cons ?_ ?_
    ·intro f w1 hb hd Q hK
     have e17:f 17=undef:=hd.1 rfl
     have e15:f 15=.bool true:=hd.2.1 rfl
     clear hd
     simp only [e17,e15] at hK
     have hK:=Lib.hid hK
     go_wp2
     exact hK.out _ _ rfl (.refl _ _) nof
    refine steps2_cons ?_ ?_
    ·intro f w1 hb hd Q hK
     have e18:f 18=.tuple #[]:=hd.1 rfl
     clear hd
     simp only [e18] at hK
     have hK:=Lib.hid hK
     go_wp2
     exact hK.out _ _ rfl (.refl _ _) nof
    refine steps2_cons ?_ ?_
    ·intro f w1 hb hd Q hK
     have e18:f 18=.tuple #[]:=hd.1 rfl
     clear hd
     simp only [e18] at hK
     have hK:=Lib.hid hK
     go_wp2
     exact hK.out _ _ rfl (.refl _ _) nof
    refine steps2_cons ?_ ?_
    ·intro f w1 hb hd Q hK
     have e20:f 20=undef:=hd.1 rfl
     have e18:f 18=.tuple #[]:=hd.2.1 rfl
     clear hd
     simp only [e20,e18] at hK
     have hK:=Lib.hid hK
     go_wp2
     exact hK.out _ _ rfl (.refl _ _) nof
    refine steps2_cons ?_ ?_
    ·intro f w1 hb hd Q hK
     have e19:f 19=undef:=hd.1 rfl
     have e21:f 21=undef:=hd.2.1 rfl
     have e18:f 18=.tuple #[]:=hd.2.2.1 rfl
     clear hd
     simp only [e19,e21,e18] at hK
     have hK:=Lib.hid hK
     go_wp2
     exact hK.out _ _ rfl (.refl _ _) nof
    refine steps2_cons ?_ ?_
    ·intro f w1 hb hd Q hK
     have e22:f 22=undef:=hd.1 rfl
     have e18:f 18=.tuple #[]:=hd.2.1 rfl
     clear hd
     simp only [e22,e18] at hK
     have hK:=Lib.hid hK
     go_wp2
     exact hK.out _ _ rfl (.refl _ _) nof
    refine steps2_cons ?_ ?_
    ·intro f w1 hb hd Q hK
     have e23:f 23=undef:=hd.1 rfl
     have e18:f 18=.tuple #[]:=hd.2.1 rfl
     clear hd
     simp only [e23,e18] at hK
     have hK:=Lib.hid hK
     go_wp2
     exact hK.out _ _ rfl (.refl _ _) nof
    refine steps2_cons ?_ ?_
    ·intro f w1 hb hd Q hK
     have e18:f 18=.tuple #[]:=hd.1 rfl
     clear hd
     simp only [e18] at hK
     have hK:=Lib.hid hK
     go_wp2
     exact hK.out _ _ rfl (.refl _ _) nof
    refine steps2_cons ?_ ?_
    ·intro f w1 hb hd Q hK
     have e25:f 25=undef:=hd.1 rfl
     have e18:f 18=.tuple #[]:=hd.2.1 rfl
     clear hd
     simp only [e25,e18] at hK
     have hK:=Lib.hid hK
     go_wp2
     exact hK.out _ _ rfl (.refl _ _) nof
    refine steps2_cons ?_ ?_
    ·intro f w1 hb hd Q hK
     have e24:f 24=undef:=hd.1 rfl
     have e26:f 26=undef:=hd.2.1 rfl
     have e18:f 18=.tuple #[]:=hd.2.2.1 rfl
     clear hd
     simp only [e24,e26,e18] at hK
     have hK:=Lib.hid hK
     go_wp2
     exact hK.out _ _ rfl (.refl _ _) nof
    refine steps2_cons ?_ ?_
    ·intro f w1 hb hd Q hK
     have e18:f 18=undef:=hd.1 rfl
     have e27:f 27=undef:=hd.2.1 rfl
     have e15:f 15=.bool true:=hd.2.2.1 rfl
     clear hd
     simp only [e18,e27,e15] at hK
     have hK:=Lib.hid hK
     go_wp2
     exact hK.out _ _ rfl (.refl _ _) nof
    refine steps2_cons ?_ ?_
    ·intro f w1 hb hd Q hK
     have e15:f 15=.bool true:=hd.1 rfl
     have e28:f 28=undef:=hd.2.1 rfl
     clear hd
     simp only [e15,e28] at hK
     have hK:=Lib.hid hK
     go_wp2
     exact hK.out _ _ rfl (.refl _ _) nof
    trivial
   intro f w1 hb hf hne
   refine wpList_nil ?_
   have d29:f 29=.bool true:=hf 17 _ _ (by decide) rfl rfl
   clear hf hne
   simp only [d29]
   clear d29
   go_wp2
   go_returns
   exact ⟨by rw [hf.out];rfl,hb0.trans (hb.mono hb0.size)⟩
  rw [hok] at hrt
  replace hrt:=Lib.hid hrt
  by_cases hm:m=0
  ·have hm3:¬ 0<(m:Int):=by omega
   have hm4:¬ 0<m:=by omega
   have hn:=Lib.hid (hnext.out hok (fun h=>by omega))
   clear hpre hnext hstop hok hm
   refine wp_region_grow2 18 (fun k=>(Nat.ble 12 k&&Nat.ble k 29)) _ [] (fun j x' q=>(dr2L x y m).getD j (fun _ _=>True) x' q) (fun _=>false) (fun f=>#[.slice (some ⟨g,o,none⟩) n c,undef,u2,.int .i64 m,.pointer (some ⟨G,0,none⟩),.slice (some ⟨g,o,none⟩) n c,.int .i64 n,.int .i64 m,.bool true,.int .i64 m,.pointer (some ⟨g,o+m*2,none⟩),.agg #[.int .i64 x,.int .i64 y],f 12,f 13,f 14,f 15,f 16,f 17,f 18,f 19,f 20,f 21,f 22,f 23,f 24,f 25,f 26,f 27,f 28,f 29,u30]) (fun f=>rfl) (by kernel_rfl) (by kernel_rfl) (by kernel_rfl) (by kernel_rfl) (by kernel_rfl) (dr2S _ _ _) (fun _ _ _ h=>by cases h) ?_ ?_
   ·refine steps2_cons ?_ ?_
    ·intro f w1 hb hd Q hK
     clear hd
     have hK:=Lib.hid hK
     obtain ⟨c0,c1⟩:=blk2 (hG.below hb)
     go_wp2
     exact hK.out _ _ rfl (.refl _ _) nof
    refine steps2_cons ?_ ?_
    ·intro f w1 hb hd Q hK
     have e12:f 12=.agg #[.int .i64 x,.int .i64 y]:=hd.1 rfl
     clear hd
     simp only [e12] at hK
     have hK:=Lib.hid hK
     go_wp2_with fail
     refine (hrt.out _).mono ?_
     rintro e w2 ⟨rfl,hb2⟩
     go_wp2
     exact hK.out _ _ rfl hb2 nof
    refine steps2_cons ?_ ?_
    ·intro f w1 hb hd Q hK
     have e13:f 13=.bool true:=hd.1 rfl
     clear hd
     simp only [e13] at hK
     have hK:=Lib.hid hK
     go_wp2
     exact hK.out _ _ rfl (.refl _ _) nof
    refine steps2_cons ?_ ?_
    ·intro f w1 hb hd Q hK
     have e14:f 14=.bool false:=hd.1 rfl
     clear hd
     simp only [e14] at hK
     have hK:=Lib.hid hK
     go_wp2
     exact hK.out _ _ rfl (.refl _ _) nof
    refine steps2_cons ?_ ?_
    ·intro f w1 hb hd Q hK
     have e15:f 15=.bool false:=hd.1 rfl
     clear hd
     simp only [e15] at hK
     have hK:=Lib.hid hK
     go_wp2
     exact hK.out _ _ rfl (.refl _ _) nof
    refine steps2_cons ?_ ?_
    ·intro f w1 hb hd Q hK
     have e16:f 16=.int .i64 m:=hd.1 rfl
     have e15:f 15=.bool false:=hd.2.1 rfl
     clear hd
     simp only [e16,e15] at hK
     have hK:=Lib.hid hK
     go_wp2
     exact hK.out _ _ rfl (.refl _ _) nof
    refine steps2_cons ?_ ?_
    ·intro f w1 hb hd Q hK
     have e17:f 17=.bool false:=hd.1 rfl
     have e15:f 15=.bool false:=hd.2.1 rfl
     clear hd
     simp only [e17,e15] at hK
     have hK:=Lib.hid hK
     go_wp2
     exact hK.out _ _ rfl (.refl _ _) nof
    refine steps2_cons ?_ ?_
    ·intro f w1 hb hd Q hK
     have e18:f 18=.bool false:=hd.1 rfl
     clear hd
     simp only [e18] at hK
     have hK:=Lib.hid hK
     go_wp2
     exact hK.out _ _ rfl (.refl _ _) nof
    refine steps2_cons ?_ ?_
    ·intro f w1 hb hd Q hK
     have e18:f 18=.bool false:=hd.1 rfl
     clear hd
     simp only [e18] at hK
     have hK:=Lib.hid hK
     go_wp2
     exact hK.out _ _ rfl (.refl _ _) nof
    refine steps2_cons ?_ ?_
    ·intro f w1 hb hd Q hK
     have e20:f 20=undef:=hd.1 rfl
     have e18:f 18=.bool false:=hd.2.1 rfl
     clear hd
     simp only [e20,e18] at hK
     have hK:=Lib.hid hK
     go_wp2
     exact hK.out _ _ rfl (.refl _ _) nof
    refine steps2_cons ?_ ?_
    ·intro f w1 hb hd Q hK
     have e19:f 19=undef:=hd.1 rfl
     have e21:f 21=undef:=hd.2.1 rfl
     have e18:f 18=.bool false:=hd.2.2.1 rfl
     clear hd
     simp only [e19,e21,e18] at hK
     have hK:=Lib.hid hK
     go_wp2
     exact hK.out _ _ rfl (.refl _ _) nof
    refine steps2_cons ?_ ?_
    ·intro f w1 hb hd Q hK
     have e22:f 22=undef:=hd.1 rfl
     have e18:f 18=.bool false:=hd.2.1 rfl
     clear hd
     simp only [e22,e18] at hK
     have hK:=Lib.hid hK
     go_wp2
     exact hK.out _ _ rfl (.refl _ _) nof
    refine steps2_cons ?_ ?_
    ·intro f w1 hb hd Q hK
     have e23:f 23=undef:=hd.1 rfl
     have e18:f 18=.bool false:=hd.2.1 rfl
     clear hd
     simp only [e23,e18] at hK
     have hK:=Lib.hid hK
     go_wp2
     exact hK.out _ _ rfl (.refl _ _) nof
    refine steps2_cons ?_ ?_
    ·intro f w1 hb hd Q hK
     have e18:f 18=.bool false:=hd.1 rfl
     clear hd
     simp only [e18] at hK
     have hK:=Lib.hid hK
     go_wp2
     exact hK.out _ _ rfl (.refl _ _) nof
    refine steps2_cons ?_ ?_
    ·intro f w1 hb hd Q hK
     have e25:f 25=undef:=hd.1 rfl
     have e18:f 18=.bool false:=hd.2.1 rfl
     clear hd
     simp only [e25,e18] at hK
     have hK:=Lib.hid hK
     go_wp2
     exact hK.out _ _ rfl (.refl _ _) nof
    refine steps2_cons ?_ ?_
    ·intro f w1 hb hd Q hK
     have e24:f 24=undef:=hd.1 rfl
     have e26:f 26=undef:=hd.2.1 rfl
     have e18:f 18=.bool false:=hd.2.2.1 rfl
     clear hd
     simp only [e24,e26,e18] at hK
     have hK:=Lib.hid hK
     go_wp2
     exact hK.out _ _ rfl (.refl _ _) nof
    refine steps2_cons ?_ ?_
    ·intro f w1 hb hd Q hK
     have e18:f 18=.bool false:=hd.1 rfl
     have e27:f 27=undef:=hd.2.1 rfl
     have e15:f 15=.bool false:=hd.2.2.1 rfl
     clear hd
     simp only [e18,e27,e15] at hK
     have hK:=Lib.hid hK
     go_wp2
     exact hK.out _ _ rfl (.refl _ _) nof
    refine steps2_cons ?_ ?_
    ·intro f w1 hb hd Q hK
     have e15:f 15=.bool false:=hd.1 rfl
     have e28:f 28=.bool false:=hd.2.1 rfl
     clear hd
     simp only [e15,e28] at hK
     have hK:=Lib.hid hK
     go_wp2
     exact hK.out _ _ rfl (.refl _ _) nof
    trivial
   intro f w1 hb hf hne
   refine wpList_nil ?_
   have d29:f 29=.bool false:=hf 17 _ _ (by decide) rfl rfl
   clear hf hne
   simp only [d29]
   clear d29
   go_wp2
   exact ⟨⟨m+1,by omega,rfl,hn.out,hb0.trans (hb.mono hb0.size)⟩,by simp [intOf];omega⟩
  have hm3:0<(m:Int):=by omega
  have hm4:0<m:=by omega
  obtain ⟨k,hk⟩:∃ k,k=m-1:=⟨_,rfl⟩
  have hk1:(m:Int)-1=(k:Int):=by omega
  have hk0:(0:Int)≤(k:Int):=by omega
  have hk2:(k:Int)<(n:Int):=by omega
  have cp:=hpre (by omega)
  rw [← hk] at cp hnext hstop
  by_cases hlt:D (k*2)<x
  ·have hn:=Lib.hid (hnext.out hok (fun h=>hlt))
   have hz:¬ x≤D (k*2):=by omega
   generalize D (k*2)=z at *
   clear hpre hnext hstop hok hm hlt hk
   refine wp_region_grow2 18 (fun k=>(Nat.ble 12 k&&Nat.ble k 29)) _ [] (fun j x' q=>(dr3L x y z g o n c m k G).getD j (fun _ _=>True) x' q) (fun _=>false) (fun f=>#[.slice (some ⟨g,o,none⟩) n c,undef,u2,.int .i64 m,.pointer (some ⟨G,0,none⟩),.slice (some ⟨g,o,none⟩) n c,.int .i64 n,.int .i64 m,.bool true,.int .i64 m,.pointer (some ⟨g,o+m*2,none⟩),.agg #[.int .i64 x,.int .i64 y],f 12,f 13,f 14,f 15,f 16,f 17,f 18,f 19,f 20,f 21,f 22,f 23,f 24,f 25,f 26,f 27,f 28,f 29,u30]) (fun f=>rfl) (by kernel_rfl) (by kernel_rfl) (by kernel_rfl) (by kernel_rfl) (by kernel_rfl) (dr3S _ _ _ _ _ _ _ _ _ _) (fun _ _ _ h=>by cases h) ?_ ?_
   ·refine steps2_cons ?_ ?_
    ·intro f w1 hb hd Q hK
     clear hd
     have hK:=Lib.hid hK
     obtain ⟨c0,c1⟩:=blk2 (hG.below hb)
     go_wp2
     exact hK.out _ _ rfl (.refl _ _) nof
    refine steps2_cons ?_ ?_
    ·intro f w1 hb hd Q hK
     have e12:f 12=.agg #[.int .i64 x,.int .i64 y]:=hd.1 rfl
     clear hd
     simp only [e12] at hK
     have hK:=Lib.hid hK
     go_wp2_with fail
     refine (hrt.out _).mono ?_
     rintro e w2 ⟨rfl,hb2⟩
     go_wp2
     exact hK.out _ _ rfl hb2 nof
    refine steps2_cons ?_ ?_
    ·intro f w1 hb hd Q hK
     have e13:f 13=.bool true:=hd.1 rfl
     clear hd
     simp only [e13] at hK
     have hK:=Lib.hid hK
     go_wp2
     exact hK.out _ _ rfl (.refl _ _) nof
    refine steps2_cons ?_ ?_
    ·intro f w1 hb hd Q hK
     have e14:f 14=.bool false:=hd.1 rfl
     clear hd
     simp only [e14] at hK
     have hK:=Lib.hid hK
     go_wp2
     exact hK.out _ _ rfl (.refl _ _) nof
    refine steps2_cons ?_ ?_
    ·intro f w1 hb hd Q hK
     have e15:f 15=.bool false:=hd.1 rfl
     clear hd
     simp only [e15] at hK
     have hK:=Lib.hid hK
     go_wp2
     exact hK.out _ _ rfl (.refl _ _) nof
    refine steps2_cons ?_ ?_
    ·intro f w1 hb hd Q hK
     have e16:f 16=.int .i64 m:=hd.1 rfl
     have e15:f 15=.bool false:=hd.2.1 rfl
     clear hd
     simp only [e16,e15] at hK
     have hK:=Lib.hid hK
     go_wp2
     exact hK.out _ _ rfl (.refl _ _) nof
    refine steps2_cons ?_ ?_
    ·intro f w1 hb hd Q hK
     have e17:f 17=.bool true:=hd.1 rfl
     have e15:f 15=.bool false:=hd.2.1 rfl
     clear hd
     simp only [e17,e15] at hK
     have hK:=Lib.hid hK
     go_wp2
     exact hK.out _ _ rfl (.refl _ _) nof
    refine steps2_cons ?_ ?_
    ·intro f w1 hb hd Q hK
     have e18:f 18=.bool true:=hd.1 rfl
     clear hd
     simp only [e18] at hK
     have hK:=Lib.hid hK
     go_wp2
     exact hK.out _ _ rfl (.refl _ _) nof
    refine steps2_cons ?_ ?_
    ·intro f w1 hb hd Q hK
     have e18:f 18=.bool true:=hd.1 rfl
     clear hd
     simp only [e18] at hK
     have hK:=Lib.hid hK
     go_wp2
     exact hK.out _ _ rfl (.refl _ _) nof
    refine steps2_cons ?_ ?_
    ·intro f w1 hb hd Q hK
     have e20:f 20=.int .i64 m:=hd.1 rfl
     have e18:f 18=.bool true:=hd.2.1 rfl
     clear hd
     simp only [e20,e18] at hK
     have hK:=Lib.hid hK
     go_wp2
     exact hK.out _ _ rfl (.refl _ _) nof
    refine steps2_cons ?_ ?_
    ·intro f w1 hb hd Q hK
     have e19:f 19=.slice (some ⟨g,o,none⟩) n c:=hd.1 rfl
     have e21:f 21=.int .i64 k:=hd.2.1 rfl
     have e18:f 18=.bool true:=hd.2.2.1 rfl
     clear hd
     simp only [e19,e21,e18] at hK
     have hK:=Lib.hid hK
     go_wp2
     exact hK.out _ _ rfl (.refl _ _) nof
    refine steps2_cons ?_ ?_
    ·intro f w1 hb hd Q hK
     have e22:f 22=.pointer (some ⟨g,o+k*2,none⟩):=hd.1 rfl
     have e18:f 18=.bool true:=hd.2.1 rfl
     clear hd
     simp only [e22,e18] at hK
     have hK:=Lib.hid hK
     go_wp2
     exact hK.out _ _ rfl (.refl _ _) nof
    refine steps2_cons ?_ ?_
    ·intro f w1 hb hd Q hK
     have e23:f 23=.pointer (some ⟨g,o+k*2,none⟩):=hd.1 rfl
     have e18:f 18=.bool true:=hd.2.1 rfl
     clear hd
     simp only [e23,e18] at hK
     have hK:=Lib.hid hK
     have c0:=(hb.cell (p:=⟨g,o+k*2,none⟩) hg0).trans cp
     go_wp2
     exact hK.out _ _ rfl (.refl _ _) nof
    refine steps2_cons ?_ ?_
    ·intro f w1 hb hd Q hK
     have e18:f 18=.bool true:=hd.1 rfl
     clear hd
     simp only [e18] at hK
     have hK:=Lib.hid hK
     go_wp2
     exact hK.out _ _ rfl (.refl _ _) nof
    refine steps2_cons ?_ ?_
    ·intro f w1 hb hd Q hK
     have e25:f 25=.pointer (some ⟨G,0,none⟩):=hd.1 rfl
     have e18:f 18=.bool true:=hd.2.1 rfl
     clear hd
     simp only [e25,e18] at hK
     have hK:=Lib.hid hK
     have c0:=(hG.below hb).cell 0
     simp only [List.getElem?_toArray,List.getElem?_cons_zero] at c0
     go_wp2
     exact hK.out _ _ rfl (.refl _ _) nof
    refine steps2_cons ?_ ?_
    ·intro f w1 hb hd Q hK
     have e24:f 24=.int .i64 z:=hd.1 rfl
     have e26:f 26=.int .i64 x:=hd.2.1 rfl
     have e18:f 18=.bool true:=hd.2.2.1 rfl
     clear hd
     simp only [e24,e26,e18] at hK
     have hK:=Lib.hid hK
     go_wp2
     exact hK.out _ _ rfl (.refl _ _) nof
    refine steps2_cons ?_ ?_
    ·intro f w1 hb hd Q hK
     have e18:f 18=.bool true:=hd.1 rfl
     have e27:f 27=.bool false:=hd.2.1 rfl
     have e15:f 15=.bool false:=hd.2.2.1 rfl
     clear hd
     simp only [e18,e27,e15] at hK
     have hK:=Lib.hid hK
     go_wp2
     exact hK.out _ _ rfl (.refl _ _) nof
    refine steps2_cons ?_ ?_
    ·intro f w1 hb hd Q hK
     have e15:f 15=.bool false:=hd.1 rfl
     have e28:f 28=.bool false:=hd.2.1 rfl
     clear hd
     simp only [e15,e28] at hK
     have hK:=Lib.hid hK
     go_wp2
     exact hK.out _ _ rfl (.refl _ _) nof
    trivial
   intro f w1 hb hf hne
   refine wpList_nil ?_
   have d29:f 29=.bool false:=hf 17 _ _ (by decide) rfl rfl
   clear hf hne
   simp only [d29]
   clear d29
   go_wp2
   exact ⟨⟨m+1,by omega,rfl,hn.out,hb0.trans (hb.mono hb0.size)⟩,by simp [intOf];omega⟩
  have hf:=Lib.hid (hstop.out (fun h=>hlt (h.2 (by omega))))
  have hz:x≤D (k*2):=by omega
  generalize D (k*2)=z at *
  clear hpre hnext hstop hok hm hlt hk
  refine wp_region_grow2 18 (fun k=>(Nat.ble 12 k&&Nat.ble k 29)) _ [] (fun j x' q=>(dr4L x y z g o n c m k G).getD j (fun _ _=>True) x' q) (fun _=>false) (fun f=>#[.slice (some ⟨g,o,none⟩) n c,undef,u2,.int .i64 m,.pointer (some ⟨G,0,none⟩),.slice (some ⟨g,o,none⟩) n c,.int .i64 n,.int .i64 m,.bool true,.int .i64 m,.pointer (some ⟨g,o+m*2,none⟩),.agg #[.int .i64 x,.int .i64 y],f 12,f 13,f 14,f 15,f 16,f 17,f 18,f 19,f 20,f 21,f 22,f 23,f 24,f 25,f 26,f 27,f 28,f 29,u30]) (fun f=>rfl) (by kernel_rfl) (by kernel_rfl) (by kernel_rfl) (by kernel_rfl) (by kernel_rfl) (dr4S _ _ _ _ _ _ _ _ _ _) (fun _ _ _ h=>by cases h) ?_ ?_
  ·refine steps2_cons ?_ ?_
   ·intro f w1 hb hd Q hK
    clear hd
    have hK:=Lib.hid hK
    obtain ⟨c0,c1⟩:=blk2 (hG.below hb)
    go_wp2
    exact hK.out _ _ rfl (.refl _ _) nof
   refine steps2_cons ?_ ?_
   ·intro f w1 hb hd Q hK
    have e12:f 12=.agg #[.int .i64 x,.int .i64 y]:=hd.1 rfl
    clear hd
    simp only [e12] at hK
    have hK:=Lib.hid hK
    go_wp2_with fail
    refine (hrt.out _).mono ?_
    rintro e w2 ⟨rfl,hb2⟩
    go_wp2
    exact hK.out _ _ rfl hb2 nof
   refine steps2_cons ?_ ?_
   ·intro f w1 hb hd Q hK
    have e13:f 13=.bool true:=hd.1 rfl
    clear hd
    simp only [e13] at hK
    have hK:=Lib.hid hK
    go_wp2
    exact hK.out _ _ rfl (.refl _ _) nof
   refine steps2_cons ?_ ?_
   ·intro f w1 hb hd Q hK
    have e14:f 14=.bool false:=hd.1 rfl
    clear hd
    simp only [e14] at hK
    have hK:=Lib.hid hK
    go_wp2
    exact hK.out _ _ rfl (.refl _ _) nof
   refine steps2_cons ?_ ?_
   ·intro f w1 hb hd Q hK
    have e15:f 15=.bool false:=hd.1 rfl
    clear hd
    simp only [e15] at hK
    have hK:=Lib.hid hK
    go_wp2
    exact hK.out _ _ rfl (.refl _ _) nof
   refine steps2_cons ?_ ?_
   ·intro f w1 hb hd Q hK
    have e16:f 16=.int .i64 m:=hd.1 rfl
    have e15:f 15=.bool false:=hd.2.1 rfl
    clear hd
    simp only [e16,e15] at hK
    have hK:=Lib.hid hK
    go_wp2
    exact hK.out _ _ rfl (.refl _ _) nof
   refine steps2_cons ?_ ?_
   ·intro f w1 hb hd Q hK
    have e17:f 17=.bool true:=hd.1 rfl
    have e15:f 15=.bool false:=hd.2.1 rfl
    clear hd
    simp only [e17,e15] at hK
    have hK:=Lib.hid hK
    go_wp2
    exact hK.out _ _ rfl (.refl _ _) nof
   refine steps2_cons ?_ ?_
   ·intro f w1 hb hd Q hK
    have e18:f 18=.bool true:=hd.1 rfl
    clear hd
    simp only [e18] at hK
    have hK:=Lib.hid hK
    go_wp2
    exact hK.out _ _ rfl (.refl _ _) nof
   refine steps2_cons ?_ ?_
   ·intro f w1 hb hd Q hK
    have e18:f 18=.bool true:=hd.1 rfl
    clear hd
    simp only [e18] at hK
    have hK:=Lib.hid hK
    go_wp2
    exact hK.out _ _ rfl (.refl _ _) nof
   refine steps2_cons ?_ ?_
   ·intro f w1 hb hd Q hK
    have e20:f 20=.int .i64 m:=hd.1 rfl
    have e18:f 18=.bool true:=hd.2.1 rfl
    clear hd
    simp only [e20,e18] at hK
    have hK:=Lib.hid hK
    go_wp2
    exact hK.out _ _ rfl (.refl _ _) nof
   refine steps2_cons ?_ ?_
   ·intro f w1 hb hd Q hK
    have e19:f 19=.slice (some ⟨g,o,none⟩) n c:=hd.1 rfl
    have e21:f 21=.int .i64 k:=hd.2.1 rfl
    have e18:f 18=.bool true:=hd.2.2.1 rfl
    clear hd
    simp only [e19,e21,e18] at hK
    have hK:=Lib.hid hK
    go_wp2
    exact hK.out _ _ rfl (.refl _ _) nof
   refine steps2_cons ?_ ?_
   ·intro f w1 hb hd Q hK
    have e22:f 22=.pointer (some ⟨g,o+k*2,none⟩):=hd.1 rfl
    have e18:f 18=.bool true:=hd.2.1 rfl
    clear hd
    simp only [e22,e18] at hK
    have hK:=Lib.hid hK
    go_wp2
    exact hK.out _ _ rfl (.refl _ _) nof
   refine steps2_cons ?_ ?_
   ·intro f w1 hb hd Q hK
    have e23:f 23=.pointer (some ⟨g,o+k*2,none⟩):=hd.1 rfl
    have e18:f 18=.bool true:=hd.2.1 rfl
    clear hd
    simp only [e23,e18] at hK
    have hK:=Lib.hid hK
    have c0:=(hb.cell (p:=⟨g,o+k*2,none⟩) hg0).trans cp
    go_wp2
    exact hK.out _ _ rfl (.refl _ _) nof
   refine steps2_cons ?_ ?_
   ·intro f w1 hb hd Q hK
    have e18:f 18=.bool true:=hd.1 rfl
    clear hd
    simp only [e18] at hK
    have hK:=Lib.hid hK
    go_wp2
    exact hK.out _ _ rfl (.refl _ _) nof
   refine steps2_cons ?_ ?_
   ·intro f w1 hb hd Q hK
    have e25:f 25=.pointer (some ⟨G,0,none⟩):=hd.1 rfl
    have e18:f 18=.bool true:=hd.2.1 rfl
    clear hd
    simp only [e25,e18] at hK
    have hK:=Lib.hid hK
    have c0:=(hG.below hb).cell 0
    simp only [List.getElem?_toArray,List.getElem?_cons_zero] at c0
    go_wp2
    exact hK.out _ _ rfl (.refl _ _) nof
   refine steps2_cons ?_ ?_
   ·intro f w1 hb hd Q hK
    have e24:f 24=.int .i64 z:=hd.1 rfl
    have e26:f 26=.int .i64 x:=hd.2.1 rfl
    have e18:f 18=.bool true:=hd.2.2.1 rfl
    clear hd
    simp only [e24,e26,e18] at hK
    have hK:=Lib.hid hK
    go_wp2
    exact hK.out _ _ rfl (.refl _ _) nof
   refine steps2_cons ?_ ?_
   ·intro f w1 hb hd Q hK
    have e18:f 18=.bool true:=hd.1 rfl
    have e27:f 27=.bool true:=hd.2.1 rfl
    have e15:f 15=.bool false:=hd.2.2.1 rfl
    clear hd
    simp only [e18,e27,e15] at hK
    have hK:=Lib.hid hK
    go_wp2
    exact hK.out _ _ rfl (.refl _ _) nof
   refine steps2_cons ?_ ?_
   ·intro f w1 hb hd Q hK
    have e15:f 15=.bool false:=hd.1 rfl
    have e28:f 28=.bool true:=hd.2.1 rfl
    clear hd
    simp only [e15,e28] at hK
    have hK:=Lib.hid hK
    go_wp2
    exact hK.out _ _ rfl (.refl _ _) nof
   trivial
  intro f w1 hb hf hne
  refine wpList_nil ?_
  have d29:f 29=.bool true:=hf 17 _ _ (by decide) rfl rfl
  clear hf hne
  simp only [d29]
  clear d29
  go_wp2
  go_returns
  exact ⟨by rw [hf.out];rfl,hb0.trans (hb.mono hb0.size)⟩
end Go.Proofs.YtnopjabcdloepaaGreatDoor.Rc

namespace Go.Proofs.YtnopjabcdloepaaGreatDoor.Rc
open Go.RowKit
theorem calls_at {P:Program} {f:FuncId} {args:Array Value} {W:World} {R:Ending→World→Prop} (h:∀ W0,W0=W→Calls P f args W0 R):Calls P f args W R:=h W rfl
set_option maxHeartbeats 1000000 in
theorem at1_c (x y t:Int) (w:World):Calls Tryz.prog 361 #[.agg #[.int .i64 x,.int .i64 y],.int .i64 t] w fun e w'=>e=.returned (.int .i64 (cmpI x t))∧Below w.heap.size w w':=by
 go_enter Tryz.func361,Tryz.ntmps361
 go_wp2_with fail
 refine (compare_c x t _).mono ?_
 rintro e w1 ⟨rfl,rfl⟩
 go_wp2
 go_returns
 exact ⟨rfl,by go_grown⟩
def foundB (n:Nat) (D:Nat→Int) (t:Int) (k:Nat):Bool:=decide (k<n∧D (k*2)=t)
set_option maxRecDepth 20000 in
set_option maxHeartbeats 2000000 in
theorem search_c (p:Option Addr) (n c:Nat) (D:Nat→Int) (t:Int) (hn:n≤1000000) (w:World) (hD:DotsAt w p n D) (hs:∀ i j,i<j→j<n→D (i*2)<D (j*2)) :
  Calls Tryz.prog 360 #[.slice p n c,.int .i64 t,.func (.func 361) #[] #[]] w fun e w'=>∃ k:Nat,k≤n∧(∀ i,i<k→D (i*2)<t)∧(∀ i,k≤i→i<n→t≤D (i*2))∧e=.returned (.tuple #[.int .i64 k,.bool (foundB n D t k)])∧Below w.heap.size w w':=by
 go_enter Tryz.func360,Tryz.ntmps360
 go_wp2
 go_loopw [9,10] (fun i j wr=>∃ lo hi:Nat,lo≤hi∧hi≤n∧i=.int .i64 lo∧j=.int .i64 hi∧(∀ i,i<lo→D (i*2)<t)∧(∀ i,hi≤i→i<n→t≤D (i*2))∧Below w.heap.size w wr) (fun i j _=>(intOf j-intOf i).toNat)
 case atStart=>exact ⟨0,n,by omega,by omega,rfl,rfl,fun i hi=>by omega,fun i h1 h2=>by omega,Below.refl _ _⟩
 case round =>
  obtain ⟨lo,hi,hlh,hhn,hi',hj',hL,hH,hb⟩:=hrel
  subst hi' hj'
  by_cases he:lo=hi
  ·subst he
   have hlt:¬ (lo:Int)<(lo:Int):=by omega
   have hpost:∀ b:Bool,b=foundB n D t lo→∃ k:Nat,k≤n∧(∀ i,i<k→D (i*2)<t)∧(∀ i,k≤i→i<n→t≤D (i*2))∧(Ending.returned (.tuple #[.int .i64 lo,.bool b])=.returned (.tuple #[.int .i64 k,.bool (foundB n D t k)])) :=
    fun b hb=>⟨lo,hhn,hL,hH,by rw [hb]⟩
   replace hpost:=Lib.hid hpost
   clear hL hs hlh
   by_cases hln:lo=n
   ·subst hln
    clear hH hhn
    go_wp2
    go_returns
    obtain ⟨k,h1,h2,h3,h4⟩:=hpost.out false (by simp [foundB])
    exact ⟨k,h1,h2,h3,h4,hb⟩
   have hln2:lo<n:=by omega
   have hln3:(lo:Int)<(n:Int):=by omega
   have hl0:(0:Int)≤(lo:Int):=by omega
   have hge:=hH lo (Nat.le_refl _) hln2
   obtain ⟨g,o,rfl,hg,hc⟩:=(hD.below hb) (by omega)
   have c0:=hc (lo*2) (by omega)
   have c1:=hc (lo*2+1) (by omega)
   rw [← Nat.add_assoc] at c1
   clear hc hD hH
   have hat:=at1_c (D (lo*2)) (D (lo*2+1)) t
   replace hat:=Lib.hid hat
   go_wp2_with fail
   refine (hat.out _).mono ?_
   rintro q w1 ⟨rfl,hb1⟩
   by_cases hq:D (lo*2)=t
   ·have hv:cmpI (D (lo*2)) t=0:=by unfold cmpI;rw [if_neg (by omega),if_neg (by omega)]
    rw [hv]
    obtain ⟨k,h1,h2,h3,h4⟩:=hpost.out true (by simp [foundB,hln2,hq])
    clear hv hq hat hpost c0 c1 hge
    go_wp2
    go_returns
    exact ⟨k,h1,h2,h3,h4,hb.trans (hb1.mono hb.size)⟩
   have hv:cmpI (D (lo*2)) t=1:=by unfold cmpI;rw [if_neg (by omega),if_pos (by omega)]
   rw [hv]
   obtain ⟨k,h1,h2,h3,h4⟩:=hpost.out false (by simp [foundB,hq])
   clear hv hq hat hpost c0 c1 hge
   go_wp2
   go_returns
   exact ⟨k,h1,h2,h3,h4,hb.trans (hb1.mono hb.size)⟩
  have hlt:(lo:Int)<(hi:Int):=by omega
  obtain ⟨h,hh⟩:∃ h,h=(lo+hi) / 2:=⟨_,rfl⟩
  have hh1:lo≤h:=by omega
  have hh2:h<hi:=by omega
  have hh3:h<n:=by omega
  have hh4:(0:Int)≤(h:Int):=by omega
  have hh5:(h:Int)<(n:Int):=by omega
  have hw1:IntKind.i64.wrap ((lo:Int)+(hi:Int))=(lo:Int)+(hi:Int):=IntWalk.i64_in _ (by omega)
  replace hL:=Lib.hid hL
  replace hH:=Lib.hid hH
  replace hh:=Lib.hid hh
  obtain ⟨g,o,rfl,hg,hc⟩:=(hD.below hb) (by omega)
  have c0:=hc (h*2) (by omega)
  have c1:=hc (h*2+1) (by omega)
  rw [← Nat.add_assoc] at c1
  replace hc:=Lib.hid hc
  clear hD
  have hw2:IntKind.u64.wrap ((lo:Int)+(hi:Int))=(lo:Int)+(hi:Int):=by rw [IntKind.wrap_u64,Int.emod_eq_of_lt (by omega) (by omega)]
  have hw3:((lo:Int)+(hi:Int)) / 2=(h:Int):=by rw [hh.out];omega
  have hw4:IntKind.i64.wrap (h:Int)=(h:Int):=IntWalk.i64_in _ (by omega)
  have hat:=at1_c (D (h*2)) (D (h*2+1)) t
  replace hat:=Lib.hid hat
  go_wp2_with fail
  refine (hat.out _).mono ?_
  rintro q w1 ⟨rfl,hb1⟩
  have hb2:=hb.trans (hb1.mono hb.size)
  clear c0 c1 hat
  by_cases hq:D (h*2)<t
  ·have hv:cmpI (D (h*2)) t = -1:=by unfold cmpI;rw [if_pos hq]
   rw [hv]
   have hL2:∀ i,i<h+1→D (i*2)<t:=fun i hi2=>by
    rcases Nat.lt_or_ge i h with h1 | h1
    ·exact Int.lt_trans (hs i h h1 hh3) hq
    obtain rfl:i=h:=by omega
    exact hq
   replace hL2:=Lib.hid hL2
   have hw5:IntKind.i64.wrap ((h:Int)+1)=(h:Int)+1:=IntWalk.i64_in _ (by omega)
   clear hv hq hs
   go_wp2
   exact ⟨⟨h+1,hi,by omega,by omega,rfl,rfl,hL2.out,hH.out,hb2⟩,by simp [intOf];omega⟩
  have hv:∃ v:Int,cmpI (D (h*2)) t=v∧¬ v<0:=⟨_,rfl,by unfold cmpI;rw [if_neg hq];split <;> decide⟩
  obtain ⟨v,hv,hv0⟩:=hv
  rw [hv]
  have hH2:∀ i,h≤i→i<n→t≤D (i*2):=fun i h1 h2=>by
   rcases Nat.lt_or_ge h i with h3 | h3
   ·have:=hs h i h3 h2
    omega
   obtain rfl:i=h:=by omega
   omega
  replace hH2:=Lib.hid hH2
  clear hv hq hs
  go_wp2
  exact ⟨⟨lo,h,by omega,by omega,rfl,rfl,hL.out,hH2.out,hb2⟩,by simp [intOf];omega⟩
set_option maxHeartbeats 2000000 in
theorem at_c (p:Option Addr) (n c:Nat) (D:Nat→Int) (t:Int) (hn:n≤1000000) (w:World) (hD:DotsAt w p n D) (hs:∀ i j,i<j→j<n→D (i*2)<D (j*2)) :
  Calls Tryz.prog 343 #[.slice p n c,.int .i64 t] w fun e w'=>∃ k:Nat,k≤n∧(∀ i,i<k→D (i*2)<t)∧(∀ i,k≤i→i<n→t≤D (i*2))∧e=.returned (.tuple #[.int .i64 k,.bool (foundB n D t k)])∧Below w.heap.size w w':=by
 have hc:=search_c p n c D t hn w hD hs
 replace hc:=Lib.hid hc
 clear hD hs
 go_enter Tryz.func343,Tryz.ntmps343
 go_wp2_with fail
 refine hc.out.mono ?_
 rintro e w1 ⟨k,h1,h2,h3,rfl,hb⟩
 replace h2:=Lib.hid h2
 replace h3:=Lib.hid h3
 go_wp2
 go_returns
 exact ⟨k,h1,h2.out,h3.out,rfl,hb⟩
def hasD (n:Nat) (D:Nat→Int) (t s:Int):Bool:=decide (∃ i,i<n∧D (i*2)=t∧s≤D (i*2+1))
theorem rightD_lt {n:Nat} {D:Nat→Int} (h:RightD n D):∀ i j,i<j→j<n→D (i*2)<D (j*2):=by
 intro i j hij hj
 induction j with
 | zero=>omega
 | succ j ih =>
  have h1:=(h (j+1) hj).2 (by omega)
  rw [Nat.add_sub_cancel] at h1
  rcases Nat.lt_or_ge i j with h2 | h2
  ·exact Int.lt_trans (ih h2 (by omega)) h1
  obtain rfl:i=j:=by omega
  exact h1
set_option maxRecDepth 20000 in
set_option maxHeartbeats 2000000 in
theorem has_c (p:Option Addr) (n c:Nat) (D:Nat→Int) (t s:Int) (hn:n≤1000000) (w:World) (hD:DotsAt w p n D) (hs:∀ i j,i<j→j<n→D (i*2)<D (j*2)) :
  Calls Tryz.prog 299 #[.slice p n c,.agg #[.int .i64 t,.int .i64 s]] w fun e w'=>e=.returned (.bool (hasD n D t s))∧Below w.heap.size w w':=by
 have hp:p=none∨p≠none:=by cases p <;> simp
 have hat:=fun w' hb=>at_c p n c D t hn w' (hD.below (w:=w) (w':=w') hb) hs
 replace hat:=Lib.hid hat
 replace hs:=Lib.hid hs
 replace hD:=Lib.hid hD
 go_enter Tryz.func299,Tryz.ntmps299
 go_wp2_with fail
 refine calls_at (fun W0 hW=>?_)
 have hG:Blk W0 w.heap.size 175 #[.int .i64 t,.int .i64 s]:=by rw [hW];exact Blk.new _ _ _
 have hb0:Below w.heap.size w W0:=by rw [hW];exact (Below.refl _ _).alloc (Nat.le_refl _) _
 clear hW
 refine (hat.out W0 hb0).mono ?_
 rintro e w1 ⟨k,h1,h2,h3,rfl,hb⟩
 replace hG:=hG.below hb
 replace hb0:=hb0.trans (hb.mono hb0.size)
 clear hb hat
 cases hf:foundB n D t k
 ·have hr:hasD n D t s=false:=decide_eq_false (fun ⟨i,hi,he,_⟩=>by
   simp only [foundB,decide_eq_false_iff_not,not_and] at hf
   rcases Nat.lt_or_ge i k with h | h
   ·have:=h2 i h;omega
   have h4:=h3 i h hi
   rcases Nat.lt_or_ge k i with h5 | h5
   ·have h6:=hs.out k i h5 hi
    have h7:=h3 k (Nat.le_refl _) (by omega)
    omega
   obtain rfl:i=k:=by omega
   exact hf hi he)
  replace hr:=Lib.hid hr
  clear h2 h3 hf hs
  have c0:=hG.cell 0
  have c1:=hG.cell 1
  go_wp2
  go_region
  go_wp2
  go_returns
  exact ⟨by rw [hr.out];rfl,hb0.drew⟩
 have hk:k<n∧D (k*2)=t:=of_decide_eq_true hf
 obtain ⟨g,o,rfl,hg,hc⟩:=(hD.out.below hb0) (by omega)
 have c2:=hc (k*2+1) (by omega)
 rw [← Nat.add_assoc] at c2
 have hr:hasD n D t s=decide (s≤D (k*2+1)):=by
  refine decide_eq_decide.2 ⟨fun ⟨i,hi,he,hsq⟩=>?_,fun h=>⟨k,hk.1,hk.2,h⟩⟩
  rcases Nat.lt_or_ge i k with h | h
  ·have:=hs.out i k h hk.1;have:=hk.2;omega
  rcases Nat.lt_or_ge k i with h5 | h5
  ·have:=hs.out k i h5 hi;have:=hk.2;omega
  obtain rfl:i=k:=by omega
  exact hsq
 replace hr:=Lib.hid hr
 have hk0:(0:Int)≤(k:Int):=by omega
 have hk1:(k:Int)<(n:Int):=by have:=hk.1;omega
 clear h2 h3 hf hs hk hc hD
 have c0:=hG.cell 0
 have c1:=hG.cell 1
 simp only [List.getElem?_toArray,List.getElem?_cons_zero] at c0
 simp only [List.getElem?_toArray,List.getElem?_cons_zero,List.getElem?_cons_succ] at c1
 go_wp2
 go_region
 go_wp2
 go_returns
 exact ⟨by rw [hr.out];rfl,hb0.drew⟩
set_option maxHeartbeats 2000000 in
theorem vright_c (p:Option Addr) (n c:Nat) (D:Nat→Int) (hn:n≤1000000) (w:World) (hD:DotsAt w p n D):Calls Tryz.prog 208 #[.slice p n c] w fun e w'=>e=.returned (.bool (rightD n D))∧Below w.heap.size w w':=by
 have hr:=dotsRight_c p n c D hn w hD
 replace hr:=Lib.hid hr
 clear hD
 go_enter Tryz.func208,Tryz.ntmps208
 go_wp2_with fail
 refine hr.out.mono ?_
 rintro e w1 ⟨rfl,hb⟩
 go_wp2
 go_returns
 exact ⟨rfl,hb⟩
def hasV (n:Nat) (D:Nat→Int) (t s:Int):Bool:=rightD n D&&(okD t s&&hasD n D t s)
set_option maxRecDepth 20000 in
set_option maxHeartbeats 2000000 in
theorem vhas_c (p:Option Addr) (n c:Nat) (D:Nat→Int) (t s:Int) (hn:n≤1000000) (w:World) (hD:DotsAt w p n D):Calls Tryz.prog 210 #[.slice p n c,.agg #[.int .i64 t,.int .i64 s]] w fun e w'=>e=.returned (.bool (hasV n D t s))∧Below w.heap.size w w':=by
 have hr:=fun w' hb=>vright_c p n c D hn w' (hD.below (w:=w) (w':=w') hb)
 have ho:=right_c t s
 have hh:=fun w' hb hs=>has_c p n c D t s hn w' (hD.below (w:=w) (w':=w') hb) hs
 replace hr:=Lib.hid hr
 replace ho:=Lib.hid ho
 replace hh:=Lib.hid hh
 clear hD
 go_enter Tryz.func210,Tryz.ntmps210
 go_wp2_with fail
 refine calls_at (fun W0 hW=>?_)
 have hG:Blk W0 w.heap.size 175 #[.int .i64 t,.int .i64 s]:=by rw [hW];exact Blk.new _ _ _
 have hb0:Below w.heap.size w W0:=by rw [hW];exact (Below.refl _ _).alloc (Nat.le_refl _) _
 clear hW
 refine (hr.out W0 hb0).mono ?_
 rintro e w1 ⟨rfl,hb⟩
 replace hG:=hG.below hb
 replace hb0:=hb0.trans (hb.mono hb0.size)
 clear hb hr
 obtain ⟨c0,c1⟩:=blk2 hG
 cases hf:rightD n D
 ·have hv:hasV n D t s=false:=by unfold hasV;rw [hf];rfl
  replace hv:=Lib.hid hv
  clear hf
  go_wp2
  go_returns
  exact ⟨by rw [hv.out];rfl,hb0⟩
 have hs:=rightD_lt (of_decide_eq_true hf)
 replace hs:=Lib.hid hs
 go_wp2_with fail
 refine (ho.out _).mono ?_
 rintro e w2 ⟨rfl,hb⟩
 replace hG:=hG.below hb
 replace hb0:=hb0.trans (hb.mono hb0.size)
 clear hb ho c0 c1
 obtain ⟨c0,c1⟩:=blk2 hG
 cases hk:okD t s
 ·have hv:hasV n D t s=false:=by unfold hasV;rw [hf,hk];rfl
  replace hv:=Lib.hid hv
  clear hf hk
  go_wp2
  go_returns
  exact ⟨by rw [hv.out];rfl,hb0⟩
 have hv:hasV n D t s=hasD n D t s:=by unfold hasV;rw [hf,hk];rfl
 replace hv:=Lib.hid hv
 clear hf hk
 go_wp2_with fail
 refine (hh.out w2 hb0 hs.out).mono ?_
 rintro e w3 ⟨rfl,hb⟩
 go_wp2
 go_returns
 exact ⟨by rw [hv.out];rfl,hb0.trans (hb.mono hb0.size)⟩
end Go.Proofs.YtnopjabcdloepaaGreatDoor.Rc

namespace Go.Proofs.YtnopjabcdloepaaGreatDoor.Rc
open Go.RowKit
def nb (n:Int) (j:Nat):Int:=n / 2 ^ (8*(7-j)) % 256
def byV (n:Nat) (b:Nat→Int):Array Value:=((List.range n).map fun j=>Value.int .u8 (b j)).toArray
theorem byV_get (n:Nat) (b:Nat→Int) (j:Nat) (h:j<n):(byV n b)[j]?=some (.int .u8 (b j)):=by
 simp [byV,h]
def nbI (n:Int) (k j:Nat):Int:=if 8-k≤j then nb n j else 0
theorem nbI_set (n:Int) (k m:Nat) (hm:m+k=7):(byV 8 (nbI n k)).setIfInBounds m (.int .u8 (nb n m))=byV 8 (nbI n (k+1)):=by
 apply Array.ext_getElem?
 intro j
 by_cases hj:j<8
 ·rw [byV_get _ _ j hj,Array.getElem?_setIfInBounds]
  by_cases e:m=j
  ·subst e
   rw [if_pos rfl,if_pos (by simp [byV];omega)]
   unfold nbI
   rw [if_pos (by omega)]
  rw [if_neg e,byV_get _ _ j hj]
  unfold nbI
  by_cases h:8-k≤j
  ·rw [if_pos h,if_pos (by omega)]
  rw [if_neg h,if_neg (by omega)]
 rw [Array.getElem?_eq_none (by simp [byV];omega),Array.getElem?_eq_none (by simp [byV];omega)]
def BytesL (w:World) (p:Option Addr) (xs:List Int):Prop:=RowAt w p xs.length (fun j=>.int .u8 (xs.getD j 0))
theorem BytesL.below {w w':World} {p:Option Addr} {xs:List Int} (h:BytesL w p xs) (hb:Below w.heap.size w w'):BytesL w' p xs:=RowAt.below h hb
def PostL (xs:List Int) (w:World) (e:Ending) (w':World):Prop:=∃ p n c,e=.returned (.slice p n c)∧n=xs.length∧BytesL w' p xs∧Below w.heap.size w w'∧∀ ad,p=some ad→w.heap.size≤ad.block
def numL (n:Int):List Int:=(List.range 8).map (nb n)
theorem numL_len (n:Int):(numL n).length=8:=by simp [numL]
theorem numL_get (n:Int) (j:Nat) (h:j<8):(numL n).getD j 0=nb n j:=by simp [numL,h]
def bL (xs:List Int):List Value:=xs.map (.int .u8 ·)
theorem bL_len (xs:List Int):(bL xs).length=xs.length:=by simp [bL]
theorem bL_app (xs ys:List Int):bL xs++bL ys=bL (xs++ys):=by simp [bL]
theorem bL_one (xs:List Int):∀ u∈bL xs,u.oneCell'=true:=fun u hu=>by
 obtain ⟨j,_,rfl⟩:=List.mem_map.1 hu
 rfl
theorem u8_info:(Tryz.prog.info? 5).map (fun i=>(i.zero,i.size,i.bytes))=some (some (.int .u8 0),1,1):=by kernel_rfl
theorem bs_under:Tryz.prog.underlying 22=some (.slice 5):=by kernel_rfl
theorem int_under:Tryz.prog.underlying 3=some (.int .i64):=by kernel_rfl
theorem add_o (g o j:Nat):(⟨g,o,none⟩:Addr).add j=⟨g,o+j,none⟩:=by unfold Addr.add;split <;> simp_all
theorem run_appB (w:World) (ty:TypeId) (base:Nat) (v:Value) (n:Nat) (ys xs:List Int) (hown:w.ownsRow base 5 1 v n (bL ys)) (p:Option Addr) (m c:Nat) (hm:m=xs.length) (hX:BytesL w p xs)
  (hb:n+m≤1000000000) (hbase:base≤w.heap.size) :
  ∃ v' w',(Builtin.append_ #[22,22] ty #[v,.slice p m c]).run Tryz.prog w=.ok v' w'∧w'.ownsRow base 5 1 v' (n+m) (bL (ys++xs))∧w.grownBy w' v.ownBlock∧(v'.ownBlock=v.ownBlock∨v'.ownBlock=some w.heap.size):=by
 obtain ⟨i,hi,hz,hs,hby⟩:=info_parts u8_info
 have hone:∀ ad:Addr,(∀ j u,(bL xs)[j]?=some u→w.cell? (ad.add j)=some u)→p=some ad→∃ v' w',(Builtin.append_ #[22,22] ty #[v,.slice p m c]).run Tryz.prog w=.ok v' w'∧w'.ownsRow base 5 1 v' (n+m) (bL (ys++xs))∧w.grownBy w' v.ownBlock∧(v'.ownBlock=v.ownBlock∨v'.ownBlock=some w.heap.size):=fun ad h hp=>by
  subst hp
  obtain ⟨v',w',h1,h2,h3,h4,h5⟩:=run_append_own_at (P:=Tryz.prog) w base 22 ty 5 i (.int .u8 0) 1 1 bs_under hi hz hs hby rfl (by decide) v n (bL ys) hown ad m c (bL xs) (by rw [bL_len,hm];omega) h (bL_one xs) (by unfold maxLen;omega) (by omega) hbase
  exact ⟨v',w',h1,by rw [← bL_app];exact h2,h3,h5⟩
 by_cases h0:xs=[]
 ·subst h0
  subst hm
  cases p with
  | some ad=>exact hone ad (fun j u hu=>by simp [bL] at hu) rfl
  | none =>
   rcases hown with ⟨hl,⟨rfl,rfl⟩ | ⟨g,cap,cur,rfl,h1,h2,h3,h4,h5,h6⟩⟩
   ·refine ⟨.slice none 0 0,w,?_,⟨by simpa using hl,.inl ⟨rfl,rfl⟩⟩,⟨rfl,rfl,rfl,Nat.le_refl _,fun _ _ _=>rfl⟩,.inl rfl⟩
    simp [Builtin.append_,run_underlying bs_under,sizeOf,typeInfo,hi,Builtin.lenOf,Builtin.firstCells]
   have hr:=run_append_room_src (P:=Tryz.prog) w 22 22 ty 5 i bs_under hi g 0 n cap (.slice none 0 c) 0 [] (Src.ofNil w bs_under c) (by omega) (fun j hj=>absurd hj (by simp)) (fun j hj=>absurd hj (by simp))
   simp only [Nat.add_zero,World.setCells] at hr
   exact ⟨_,w,hr,⟨by simpa using hl,.inr ⟨g,cap,cur,rfl,h1,h2,h3,h4,h5,by simpa using h6⟩⟩,⟨rfl,rfl,rfl,Nat.le_refl _,fun _ _ _=>rfl⟩,.inl rfl⟩
 have hpos:0<xs.length:=List.length_pos_iff.2 h0
 obtain ⟨g,o,rfl,_,hc⟩:=hX hpos
 refine hone _ (fun j u hu=>?_) rfl
 rw [add_o]
 have hj:j<xs.length:=by
  rcases Nat.lt_or_ge j xs.length with h | h
  ·exact h
  rw [List.getElem?_eq_none (by rw [bL_len];exact h)] at hu
  cases hu
 rw [hc j hj,← hu]
 simp [bL,hj]
section
variable {ops:Array Oper} {rest:List Oper} {o:Oper} {a:Act} {w:World} {Q:Exit→Act→World→Prop}
theorem wpList_appB (hgd:o.guard=none) {s x:Operand} (ho:o.op=.call { callee:=.builtin .append,args:=#[s,x],argTypes:=#[22,22] }) {v:Value} (hs:a.eval s=v) {base n:Nat} {ys xs:List Int} (hown:w.ownsRow base 5 1 v n (bL ys))
  {p:Option Addr} {m c:Nat} (hx:a.eval x=.slice p m c) (hm:m=xs.length) (hX:BytesL w p xs) (hb:n+m≤1000000000) (hbase:base≤w.heap.size)
  (h:∀ v' w',w'.ownsRow base 5 1 v' (n+m) (bL (ys++xs))→w.grownBy w' v.ownBlock→(v'.ownBlock=v.ownBlock∨v'.ownBlock=some w.heap.size)→wpList Tryz.prog ops Q rest (a.put o.dst v') w'):wpList Tryz.prog ops Q (o::rest) a w :=
 wpList_plain hgd fun _ hK=>by
  obtain ⟨v',w',hr,h2,h3,h4⟩:=run_appB w o.type base v n ys xs hown p m c hm hX hb hbase
  unfold Oper.wp execOp
  simp only [ho,resolve,invoke,builtin,Sem.run_bind,Sem.run_pure,Result.andThen_ok,List.map_toArray,List.map_cons,List.map_nil,hs,hx,hr]
  exact hK _ _ (h v' w' h2 h3 h4)
theorem wpList_zeros (hgd:o.guard=none) {s x:Operand} (ho:o.op=.call { callee:=.builtin .append,args:=#[s,x],argTypes:=#[22,3] }) (hs:a.eval s=.slice none 0 0) {N:Nat} (hx:a.eval x=.int .i64 N) (h0:0<N) (hb:N≤1000000000)
  (h:∀ g C w',g=w.heap.size→w'.ownsRow g 5 1 (.slice (some ⟨g,0,none⟩) 0 C) 0 []→Below w.heap.size w w'→N≤C→wpList Tryz.prog ops Q rest (a.put o.dst (.slice (some ⟨g,0,none⟩) N C)) w'):wpList Tryz.prog ops Q (o::rest) a w :=
 wpList_plain hgd fun _ hK=>by
  obtain ⟨i,hi,hz,hsz,hby⟩:=info_parts u8_info
  have hr:=Lib.run_append_nil_zeros (P:=Tryz.prog) w 22 3 o.type 5 i (.int .u8 0) .i64 .i64 bs_under int_under hi hz N h0 (by omega) (by omega) (by rw [hby];omega)
  have hge:=grownCap_ge w N 0 5
  unfold Oper.wp execOp
  simp only [ho,resolve,invoke,builtin,Sem.run_bind,Sem.run_pure,Result.andThen_ok,List.map_toArray,List.map_cons,List.map_nil,hs,hx,hr]
  refine hK _ _ (h _ _ _ rfl ⟨rfl,.inr ⟨_,_,_,rfl,Nat.le_refl _,heap_alloc_new w.drew _,Nat.zero_le _,grownCap_le_maxLen w _ _ _ (by unfold maxLen;omega),?_,by simp⟩⟩ ?_ hge)
  ·simp [size_zeroCells,Value.cells]
   omega
  exact (Below.refl w.heap.size w).drew.alloc (Nat.le_refl _) _
end
set_option maxRecDepth 20000 in
set_option maxHeartbeats 2000000 in
theorem number_c (n:Int) (h0:0≤n) (h1:n<4611686018427387904) (w:World):Calls Tryz.prog 217 #[.int .i64 n] w (PostL (numL n) w):=by
 have hmk:∀ w,(Instr.makeSlice 22 (.int .i64 8) (.int .i64 8)).run Tryz.prog w=.ok (.slice (some ⟨w.heap.size,0,none⟩) 8 8) (w.alloc (.cells (byV 8 (nbI n 0)) 5)):=fun _=>by kernel_rfl
 have hw0:IntKind.u64.wrap n=n:=by rw [IntKind.wrap_u64,Int.emod_eq_of_lt h0 (by omega)]
 go_enter Tryz.func217,Tryz.ntmps217
 go_wp2
 clear hmk
 refine at_world (fun W0 hW=>?_)
 have hG:Blk W0 w.heap.size 5 (byV 8 (nbI n 0)):=by rw [hW];exact Blk.new _ _ _
 have hb0:Below w.heap.size w W0:=by rw [hW];exact (Below.refl _ _).alloc (Nat.le_refl _) _
 clear hW
 go_loopw [8] (fun i wr=>∃ k:Nat,k≤8∧i=.int .i64 k∧Blk wr w.heap.size 5 (byV 8 (nbI n k))∧Below w.heap.size w wr) (fun i _=>(8-intOf i).toNat)
 case atStart=>exact ⟨0,by omega,rfl,hG,hb0⟩
 case round =>
  clear hG hb0
  obtain ⟨k,hk,hi,hG,hb⟩:=hrel
  subst hi
  by_cases he:k=8
  ·have hk1:(k:Int)=8:=by omega
   rw [hk1]
   rw [he] at hG
   clear hk he hk1
   go_wp2
   go_returns
   exact ⟨_,_,_,rfl,(numL_len n).symm,fun _=>⟨_,_,rfl,hG.lt,fun j hj=>by rw [numL_len] at hj;show _=some (Value.int .u8 ((numL n).getD j 0));rw [Nat.zero_add,hG.cell,byV_get _ _ _ hj,numL_get _ _ hj];unfold nbI;rw [if_pos (by omega)]⟩,hb,fun ad h=>by injection h with h;rw [← h];exact Nat.le_refl _⟩
  have hk0:(0:Int)≤(k:Int):=by omega
  have hk1:(k:Int)<8:=by omega
  obtain ⟨m,hm⟩:∃ m,m=7-k:=⟨_,rfl⟩
  have hm1:(7:Int)-(k:Int)=(m:Int):=by omega
  have hm2:m<8:=by omega
  have hm3:m+k=7:=by omega
  have hm4:(0:Int)≤(m:Int):=by omega
  have hm5:(m:Int)<8:=by omega
  have cm:=hG.cell m
  rw [byV_get _ _ _ hm2] at cm
  have fm:=fun j=>hG.frozen j
  clear hk he hm
  go_wp2
  have e7:n / 2 ^ (8*k) % 256=nb n m:=by unfold nb;rw [show 7-m=k by omega]
  rw [e7]
  refine ⟨⟨k+1,by omega,rfl,?_,hb.setCell (p:=⟨w.heap.size,m,none⟩) (Nat.le_refl _) _⟩,by simp [intOf];omega⟩
  have:=hG.set_ m (.int .u8 (nb n m))
  rw [nbI_set n k m hm3] at this
  exact this
set_option maxRecDepth 20000 in
set_option maxHeartbeats 2000000 in
theorem grow_c (N:Nat) (hN:N≤1000000000) (w:World):Calls Tryz.prog 296 #[.slice none 0 0,.int .i64 N] w fun e w'=>∃ v,e=.returned v∧w'.ownsRow w.heap.size 5 1 v 0 []∧Below w.heap.size w w':=by
 go_enter Tryz.func296,Tryz.ntmps296
 have h0:(0:Int)≤(N:Int):=by omega
 by_cases hz:N=0
 ·subst hz
  go_wp2
  go_returns
  exact ⟨_,rfl,⟨rfl,.inl ⟨rfl,rfl⟩⟩,Below.refl _ _⟩
 have h1:(0:Int)<(N:Int):=by omega
 have h2:0<N:=by omega
 go_wp2_with (refine wpList_zeros rfl rfl rfl rfl h2 hN ?_;intro g C w1 hg hown hb hC)
 go_returns
 subst hg
 exact ⟨_,rfl,hown,hb⟩
def PartsAt (w:World) (g o:Nat) (ps:List (List Int)):Prop:=g<w.heap.size∧∀ i,i<ps.length→∃ q n c,w.cell? ⟨g,o+i,none⟩=some (.slice q n c)∧n=(ps.getD i []).length∧BytesL w q (ps.getD i [])
theorem PartsAt.below {w w':World} {g o:Nat} {ps:List (List Int)} (h:PartsAt w g o ps) (hb:Below w.heap.size w w'):PartsAt w' g o ps :=
 ⟨Nat.lt_of_lt_of_le h.1 hb.size,fun i hi=>by
  obtain ⟨q,n,c,h1,h2,h3⟩:=h.2 i hi
  exact ⟨q,n,c,(hb.cell (p:=⟨g,o+i,none⟩) h.1).trans h1,h2,h3.below hb⟩⟩
theorem take_flat (ps:List (List Int)) (i:Nat) (hi:i<ps.length):(ps.take (i+1)).flatten=(ps.take i).flatten++ps.getD i []:=by
 rw [List.take_succ_eq_append_getElem hi,List.flatten_append]
 simp [hi]
theorem take_le (ps:List (List Int)) (i:Nat):(ps.take i).flatten.length≤ps.flatten.length:=by
 conv=>rhs;rw [← List.take_append_drop i ps,List.flatten_append,List.length_append]
 omega
theorem post_own {w w':World} {v:Value} {n:Nat} {xs:List Int} (h:w'.ownsRow w.heap.size 5 1 v n (bL xs)) (hb:Below w.heap.size w w'):PostL xs w (.returned v) w':=by
 have hl:n=xs.length:=by have:=h.1;rw [bL_len] at this;omega
 rcases h.2 with ⟨rfl,h0⟩ | ⟨g,cap,cur,rfl,h1,h2,h3,h4,h5,h6⟩
 ·exact ⟨_,_,_,rfl,by omega,fun hp=>by omega,hb,fun ad h=>by cases h⟩
 refine ⟨_,_,_,rfl,hl,fun _=>⟨g,0,rfl,(Array.getElem?_eq_some_iff.1 h2).1,fun j hj=>?_⟩,hb,fun ad h=>by injection h with h;rw [← h];exact h1⟩
 rw [Nat.zero_add,h.cellAt j (by omega)]
 simp [bL,hj]
theorem own_mono {w:World} {base base':Nat} {e:TypeId} {size:Nat} {v:Value} {n:Nat} {xs:List Value} (h:w.ownsRow base e size v n xs) (hb:base'≤base):w.ownsRow base' e size v n xs:=by
 refine ⟨h.1,?_⟩
 rcases h.2 with hn | ⟨g,cap,cur,rfl,hg,rest⟩
 ·exact .inl hn
 exact .inr ⟨g,cap,cur,rfl,Nat.le_trans hb hg,rest⟩
def PostO (xs:List Int) (w:World) (e:Ending) (w':World):Prop:=∃ v n,e=.returned v∧w'.ownsRow w.heap.size 5 1 v n (bL xs)∧Below w.heap.size w w'
theorem PostO.l {xs:List Int} {w w':World} {e:Ending} (h:PostO xs w e w'):PostL xs w e w':=by
 obtain ⟨v,n,rfl,h1,h2⟩:=h
 exact post_own h1 h2
theorem ownB_nil {w:World} {base:Nat}:w.ownsRow base 5 1 (.slice none 0 0) 0 (bL []):=⟨rfl,.inl ⟨rfl,rfl⟩⟩
set_option maxRecDepth 20000 in
set_option maxHeartbeats 4000000 in
theorem concat_o (g o K cc:Nat) (ps:List (List Int)) (hK:K=ps.length) (hT:ps.flatten.length≤100000000) (hK2:K≤1000000) (w:World) (hP:PartsAt w g o ps):Calls Tryz.prog 205 #[.slice (some ⟨g,o,none⟩) K cc] w (PostO ps.flatten w):=by
 have hlast:ps.take K=ps:=by rw [hK];exact List.take_length
 have hstep:=take_flat ps
 have hle:=take_le ps
 obtain ⟨hg,hP⟩:=hP
 obtain ⟨T,hTe⟩:∃ T:Nat→List Int,T=fun i=>(ps.take i).flatten:=⟨_,rfl⟩
 have hT0:T 0=[]:=by rw [hTe];rfl
 have hTK:T K=ps.flatten:=by rw [hTe];show (ps.take K).flatten=_;rw [hlast]
 have hTs:∀ i,i<K→T (i+1)=T i++ps.getD i []:=fun i hi=>by rw [hTe];exact hstep i (by omega)
 have hTl:∀ i,(T i).length≤100000000:=fun i=>by rw [hTe];exact Nat.le_trans (hle i) hT
 rw [← hTK]
 obtain ⟨L,hL⟩:∃ L:Nat→List Int,L=fun i=>ps.getD i []:=⟨_,rfl⟩
 replace hTs:∀ i,i<K→T (i+1)=T i++L i:=by rw [hL];exact hTs
 replace hP:∀ i,i<K→∃ q n c,w.cell? ⟨g,o+i,none⟩=some (.slice q n c)∧n=(L i).length∧BytesL w q (L i):=by rw [hL,hK];exact hP
 clear hTe hL hlast hstep hle hTK hT hK
 replace hT0:=Lib.hid hT0
 replace hTs:=Lib.hid hTs
 replace hTl:=Lib.hid hTl
 replace hP:=Lib.hid hP
 go_enter Tryz.func205,Tryz.ntmps205
 go_wp2
 go_loopw [3,11] (fun s i wr=>∃ m:Nat,m≤K∧i=.int .i64 m∧s=.int .i64 ((T m).length:Nat)∧w=wr) (fun _ i _=>(K-intOf i).toNat)
 case atStart=>exact ⟨0,by omega,rfl,by rw [hT0.out];rfl,rfl⟩
 case round =>
  obtain ⟨m,hm,hi,hs,rfl⟩:=hrel
  subst hi hs
  by_cases he:m=K
  ·subst he
   obtain ⟨N,hN⟩:∃ N,N=(T m).length:=⟨_,rfl⟩
   have hN2:N≤1000000000:=by have:=hTl.out m;omega
   rw [← hN]
   clear hm hN
   go_wp2_with fail
   refine (grow_c N hN2 _).mono ?_
   rintro e w1 ⟨v,rfl,hown,hb⟩
   clear hN2
   replace hown:=Lib.hid hown
   go_wp2
   go_loopw [6,27] (fun v i wr=>∃ k:Nat,k≤m∧i=.int .i64 k∧wr.ownsRow w.heap.size 5 1 v (T k).length (bL (T k))∧Below w.heap.size w wr) (fun _ i _=>(m-intOf i).toNat)
   case atStart=>exact ⟨0,by omega,rfl,by rw [hT0.out];exact hown.out,hb⟩
   case round =>
    clear hown hb
    obtain ⟨k,hk,hi,hown,hb⟩:=hrel
    subst hi
    by_cases he:k=m
    ·subst he
     have hpo:=Lib.hid (show PostO (T k) w (.returned u6) wr from ⟨_,_,rfl,hown,hb⟩)
     clear hown hk
     go_wp2
     go_returns
     exact hpo.out
    have hk0:(0:Int)≤(k:Int):=by omega
    have hk1:(k:Int)<(m:Int):=by omega
    have hk2:k<m:=by omega
    obtain ⟨q,n,c,hc,hn,hB⟩:=hP.out k hk2
    have hnx:=hTs.out k hk2
    have hl1:=hTl.out (k+1)
    rw [hnx,List.length_append,← hn] at hl1
    have hc1:=(hb.cell (p:=⟨g,o+k,none⟩) hg).trans hc
    have hB1:=hB.below hb
    have hbs:=hb.size
    have hlen:(T (k+1)).length=(T k).length+n:=by rw [hnx,List.length_append,← hn]
    clear hB hk he hc
    replace hown:=Lib.hid hown
    replace hB1:=Lib.hid hB1
    replace hlen:=Lib.hid hlen
    replace hnx:=Lib.hid hnx
    replace hn:=Lib.hid hn
    have hl3:(T k).length+n≤1000000000:=by omega
    go_wp2_with (refine wpList_appB rfl rfl rfl hown.out rfl hn.out hB1.out hl3 hbs ?_;intro v' w2 hown2 hgr hat;have hb2:=hb.grown hgr hbs (fun g h=>(hown.out.lt g h).1);replace hown2:=Lib.hid hown2;clear hgr hat)
    refine ⟨⟨k+1,by omega,rfl,?_,hb2⟩,by simp [intOf];omega⟩
    rw [hnx.out,List.length_append,← hn.out]
    exact hown2.out
  have hm0:(0:Int)≤(m:Int):=by omega
  have hm1:(m:Int)<(K:Int):=by omega
  have hm2:m<K:=by omega
  obtain ⟨q,n,c,hc,hn,hB⟩:=hP.out m hm2
  have hnx:=hTs.out m hm2
  have hl1:=hTl.out (m+1)
  rw [hnx,List.length_append,← hn] at hl1
  have hl2:((T (m+1)).length:Int)=((T m).length:Int)+(n:Int):=by rw [hnx,List.length_append,← hn];omega
  clear hB hn hm he hnx
  generalize (T m).length=X at *
  have hw:IntKind.i64.wrap ((X:Int)+(n:Int))=(X:Int)+(n:Int):=IntWalk.i64_in _ (by omega)
  have hx0:¬ (X:Int)+(n:Int)<0:=by omega
  replace hl2:=Lib.hid hl2
  go_wp2
  exact ⟨⟨m+1,by omega,rfl,by rw [hl2.out],by trivial⟩,by simp [intOf];omega⟩
end Go.Proofs.YtnopjabcdloepaaGreatDoor.Rc

namespace Go.Proofs.YtnopjabcdloepaaGreatDoor.Rc
open Go.RowKit
set_option maxHeartbeats 2000000 in
theorem join_o (g o K cc:Nat) (ps:List (List Int)) (hK:K=ps.length) (hT:ps.flatten.length≤100000000) (hK2:K≤1000000) (w:World) (hP:PartsAt w g o ps):Calls Tryz.prog 103 #[.slice (some ⟨g,o,none⟩) K cc] w (PostO ps.flatten w):=by
 have hc:=concat_o g o K cc ps hK hT hK2 w hP
 replace hc:=Lib.hid hc
 clear hP hK hT hK2
 go_enter Tryz.func103,Tryz.ntmps103
 go_wp2_with fail
 refine hc.out.mono ?_
 rintro e w1 ⟨v,n,rfl,ho,hb⟩
 replace ho:=Lib.hid ho
 clear hc
 go_wp2
 go_returns
 exact ⟨v,n,rfl,ho.out,hb⟩
theorem join_c (g o K cc:Nat) (ps:List (List Int)) (hK:K=ps.length) (hT:ps.flatten.length≤100000000) (hK2:K≤1000000) (w:World) (hP:PartsAt w g o ps):Calls Tryz.prog 103 #[.slice (some ⟨g,o,none⟩) K cc] w (PostL ps.flatten w) :=
 (join_o g o K cc ps hK hT hK2 w hP).mono fun _ _ h=>h.l
theorem parts2 {w:World} {g:Nat} {q1 q2:Option Addr} {n1 n2 c1 c2:Nat} {x1 x2:List Int} (h:Blk w g 22 #[.slice q1 n1 c1,.slice q2 n2 c2]) (e1:n1=x1.length) (e2:n2=x2.length) (h1:BytesL w q1 x1) (h2:BytesL w q2 x2):PartsAt w g 0 [x1,x2] :=
 ⟨h.lt,fun i hi=>by
  have hi2:i=0∨i=1:=by simp at hi;omega
  rcases hi2 with rfl | rfl
  ·exact ⟨q1,n1,c1,h.cell 0,e1,h1⟩
  exact ⟨q2,n2,c2,h.cell 1,e2,h2⟩⟩
set_option maxHeartbeats 2000000 in
theorem bytes_c (p:Option Addr) (n c:Nat) (xs:List Int) (hn:n=xs.length) (hn2:n≤1000000) (w:World) (hB:BytesL w p xs):Calls Tryz.prog 216 #[.slice p n c] w (PostL (numL n++xs) w):=by
 have hnm:=number_c (n:Int) (by omega) (by omega)
 replace hnm:=Lib.hid hnm
 replace hB:=Lib.hid hB
 replace hn:=Lib.hid hn
 go_enter Tryz.func216,Tryz.ntmps216
 go_wp2_with fail
 refine (hnm.out _).mono ?_
 rintro e w1 ⟨q,k,c1,rfl,hk,hQ,hb,-⟩
 have hB1:=Lib.hid (hB.out.below hb)
 replace hk:=Lib.hid hk
 replace hQ:=Lib.hid hQ
 clear hB
 go_wp2_with fail
 refine calls_at (fun W0 hW=>?_)
 have hG:Blk W0 w1.heap.size 22 #[.slice q k c1,.slice p n c]:=by rw [hW];exact Blk.new _ _ _
 have hbw:Below w1.heap.size w1 W0:=by rw [hW];exact (Below.refl _ _).alloc (Nat.le_refl _) _
 clear hW
 have hP:=parts2 hG hk.out hn.out (hQ.out.below hbw) (hB1.out.below hbw)
 have hlen:[numL (n:Int),xs].flatten.length≤100000000:=by simp [numL_len,← hn.out];omega
 refine (join_c w1.heap.size 0 2 2 _ rfl hlen (by decide) W0 hP).mono ?_
 rintro e w2 ⟨r,m,c2,rfl,hm,hR,hb2,hf⟩
 have hb3:=hb.trans (hbw.mono hb.size)
 have hf2:∀ ad,r=some ad→w.heap.size≤ad.block:=fun ad h=>Nat.le_trans hb3.size (hf ad h)
 replace hf2:=Lib.hid hf2
 clear hf
 replace hb3:=hb3.trans (hb2.mono hb3.size)
 clear hP hlen hG hbw hb hb2 hQ hB1
 replace hm:=Lib.hid hm
 replace hR:=Lib.hid hR
 go_wp2
 go_returns
 exact ⟨r,m,c2,rfl,by rw [hm.out];simp,by have:=hR.out;simpa using this,hb3,hf2.out⟩
theorem ext_getD {xs ys:List Int} (hl:xs.length=ys.length) (h:∀ j,j<xs.length→xs.getD j 0=ys.getD j 0):xs=ys:=by
 apply List.ext_getElem hl
 intro j h1 h2
 have:=h j h1
 simpa [h1,h2] using this
def eqL (xs ys:List Int):Bool:=decide (xs=ys)
set_option maxRecDepth 20000 in
set_option maxHeartbeats 4000000 in
theorem sameBytes_c (p1 p2:Option Addr) (n1 c1 n2 c2:Nat) (xs ys:List Int) (h1:n1=xs.length) (h2:n2=ys.length) (hn:n1≤1000000) (hn2:n2≤1000000) (w:World) (hX:BytesL w p1 xs) (hY:BytesL w p2 ys) :
  Calls Tryz.prog 27 #[.slice p1 n1 c1,.slice p2 n2 c2] w fun e w'=>e=.returned (.bool (eqL xs ys))∧Below w.heap.size w w':=by
 have hne:n1≠n2→eqL xs ys=false:=fun h=>decide_eq_false (fun e=>h (by rw [h1,h2,e]))
 have hyes:n1=n2→(∀ j,j<n1→xs.getD j 0=ys.getD j 0)→eqL xs ys=true:=fun e h=>decide_eq_true (ext_getD (by omega) (by rw [← h1];exact h))
 have hno:∀ j,xs.getD j 0≠ys.getD j 0→eqL xs ys=false:=fun j h=>decide_eq_false (fun e=>h (by rw [e]))
 have hXc:0<n1→∃ g o,p1=some ⟨g,o,none⟩∧g<w.heap.size∧∀ j,j<n1→w.cell? ⟨g,o+j,none⟩=some (.int .u8 (xs.getD j 0)):=by rw [h1];exact hX
 have hYc:0<n2→∃ g o,p2=some ⟨g,o,none⟩∧g<w.heap.size∧∀ j,j<n2→w.cell? ⟨g,o+j,none⟩=some (.int .u8 (ys.getD j 0)):=by rw [h2];exact hY
 generalize eqL xs ys=E at *
 obtain ⟨b1,hb1⟩:∃ b:Nat→Int,b=fun j=>xs.getD j 0:=⟨_,rfl⟩
 obtain ⟨b2,hb2⟩:∃ b:Nat→Int,b=fun j=>ys.getD j 0:=⟨_,rfl⟩
 replace hyes:n1=n2→(∀ j,j<n1→b1 j=b2 j)→E=true:=by rw [hb1,hb2];exact hyes
 replace hno:∀ j,b1 j≠b2 j→E=false:=by rw [hb1,hb2];exact hno
 replace hXc:0<n1→∃ g o,p1=some ⟨g,o,none⟩∧g<w.heap.size∧∀ j,j<n1→w.cell? ⟨g,o+j,none⟩=some (.int .u8 (b1 j)):=by rw [hb1];exact hXc
 replace hYc:0<n2→∃ g o,p2=some ⟨g,o,none⟩∧g<w.heap.size∧∀ j,j<n2→w.cell? ⟨g,o+j,none⟩=some (.int .u8 (b2 j)):=by rw [hb2];exact hYc
 clear hX hY h1 h2 hb1 hb2
 replace hyes:=Lib.hid hyes
 replace hno:=Lib.hid hno
 replace hne:=Lib.hid hne
 replace hXc:=Lib.hid hXc
 replace hYc:=Lib.hid hYc
 go_enter Tryz.func27,Tryz.ntmps27
 by_cases hn:n1=n2
 ·subst hn
  go_wp2
  go_loopw [5] (fun i wr=>∃ m:Nat,m≤n1∧i=.int .i64 m∧(∀ j,j<m→b1 j=b2 j)∧Below w.heap.size w wr) (fun i _=>(n1-intOf i).toNat)
  case atStart=>exact ⟨0,by omega,rfl,fun j h=>absurd h (by omega),Below.refl _ _⟩
  case round =>
   obtain ⟨m,hm,hi,hI,hb⟩:=hrel
   subst hi
   by_cases hmn:m=n1
   ·subst hmn
    have he:=hyes.out (by trivial) hI
    replace he:=Lib.hid he
    clear hm hI
    go_wp2
    go_returns
    exact ⟨by rw [he.out];rfl,hb⟩
   have hm':(m:Int)<n1:=by omega
   have hm0:(0:Int)≤(m:Int):=by omega
   have hn0:(n1:Int)≤1000000:=by omega
   obtain ⟨g1,o1,rfl,hg1,hB1⟩:=hXc.out (by omega)
   obtain ⟨g2,o2,rfl,hg2,hB2⟩:=hYc.out (by omega)
   have ca:=(hb.cell (p:=⟨g1,o1+m,none⟩) hg1).trans (hB1 m (by omega))
   have cb:=(hb.cell (p:=⟨g2,o2+m,none⟩) hg2).trans (hB2 m (by omega))
   have hm2:m+1≤n1:=by omega
   clear hB1 hB2 hXc hYc
   have hIh:=Lib.hid hI
   clear hI
   by_cases he:b1 m=b2 m
   ·replace he:=Lib.hid he
    go_wp2
    go_region
    rw [he.out]
    go_wp2
    refine ⟨⟨m+1,hm2,rfl,fun j hj=>?_,hb.drew⟩,by simp [intOf];omega⟩
    by_cases e:j=m
    ·rw [e];exact he.out
    exact hIh.out j (by omega)
   have he2:(b1 m==b2 m)=false:=by simpa using he
   have hf:=Lib.hid (hno.out m he)
   go_wp2
   go_region
   simp only [he2,bne,Bool.not_false]
   go_wp2
   go_returns
   exact ⟨by rw [hf.out];rfl,hb.drew⟩
 have hn3:((n1:Int)==(n2:Int))=false:=by simp;omega
 have hf:=Lib.hid (hne.out hn)
 go_wp2
 go_returns
 exact ⟨by rw [hf.out];rfl,Below.refl _ _⟩
end Go.Proofs.YtnopjabcdloepaaGreatDoor.Rc
