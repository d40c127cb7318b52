import Derived.Deep.MidRow
import Derived.Below
import Derived.WalkKit
import Derived.Test.YtnopjabcdloepaaGreatDoorRows
import Derived.WalkSpells
import Derived.WalkLawsBesides
import Derived.RegionTactic
import Derived.ChangeAlike
import Derived.BigRegion
import Derived.Handy
import Derived.Lib.Hide
import Derived.StillTailTactics
import Derived.Deep.RegionWith
import Derived.StillTail
import Derived.KernelRfl
namespace Fe
structure E where
 a0:Int
 a1:Int
 a2:Int
 a3:Int
 a4:Int
def p:Int:=57896044618658097711785492504343953926634992332820282019728792003956564819949
def val (e:E):Int:=e.a0+2251799813685248*e.a1+5070602400912917605986812821504*e.a2+11417981541647679048466287755595961091061972992*e.a3+25711008708143844408671393477458601640355247900524685364822016*e.a4
def R (e:E):Prop:=(0≤e.a0∧e.a0<4503599627370496)∧(0≤e.a1∧e.a1<4503599627370496)∧(0≤e.a2∧e.a2<4503599627370496)∧(0≤e.a3∧e.a3<4503599627370496)∧(0≤e.a4∧e.a4<4503599627370496)
def carr (e:E):E:=⟨e.a0 % 2251799813685248+19*(e.a4 / 2251799813685248),e.a1 % 2251799813685248+e.a0 / 2251799813685248,e.a2 % 2251799813685248+e.a1 / 2251799813685248,e.a3 % 2251799813685248+e.a2 / 2251799813685248,e.a4 % 2251799813685248+e.a3 / 2251799813685248⟩
theorem val_carr (e:E):val (carr e)=val e-p*(e.a4 / 2251799813685248):=by
 simp only [val,carr,p]
 omega
def conv (a b:E):E:=⟨a.a0*b.a0+19*(a.a1*b.a4)+19*(a.a2*b.a3)+19*(a.a3*b.a2)+19*(a.a4*b.a1),
 a.a0*b.a1+a.a1*b.a0+19*(a.a2*b.a4)+19*(a.a3*b.a3)+19*(a.a4*b.a2),
 a.a0*b.a2+a.a1*b.a1+a.a2*b.a0+19*(a.a3*b.a4)+19*(a.a4*b.a3),
 a.a0*b.a3+a.a1*b.a2+a.a2*b.a1+a.a3*b.a0+19*(a.a4*b.a4),
 a.a0*b.a4+a.a1*b.a3+a.a2*b.a2+a.a3*b.a1+a.a4*b.a0⟩
theorem val_conv (a b:E):∃ k,val a*val b=val (conv a b)+p*k:=by
 refine ⟨(a.a1*b.a4+a.a2*b.a3+a.a3*b.a2+a.a4*b.a1)+2251799813685248*(a.a2*b.a4+a.a3*b.a3+a.a4*b.a2)+5070602400912917605986812821504*(a.a3*b.a4+a.a4*b.a3)+11417981541647679048466287755595961091061972992*(a.a4*b.a4),?_⟩
 simp only [val,conv,p]
 grind
def W (e:E):Prop:=(0≤e.a0∧e.a0≤18446744073709551615)∧(0≤e.a1∧e.a1≤18446744073709551615)∧(0≤e.a2∧e.a2≤18446744073709551615)∧(0≤e.a3∧e.a3≤18446744073709551615)∧(0≤e.a4∧e.a4≤18446744073709551615)
theorem R.w {e:E} (h:R e):W e:=by simp only [R,W] at *;omega
def wr (x:Int):Int:=x % 18446744073709551616
theorem carr_w {e:E} (h:W e):W (carr e):=by simp only [W,carr] at *;omega
theorem carr_r {e:E} (h:(0≤e.a0∧e.a0≤118208995221734523)∧(0≤e.a1∧e.a1≤1152921504606846975)∧(0≤e.a2∧e.a2≤1152921504606846975)∧(0≤e.a3∧e.a3≤1152921504606846975)∧(0≤e.a4∧e.a4≤118208995221734523)):R (carr e):=by simp only [R,carr] at *;omega
def addE (a b:E):E:=carr ⟨wr (a.a0+b.a0),wr (a.a1+b.a1),wr (a.a2+b.a2),wr (a.a3+b.a3),wr (a.a4+b.a4)⟩
theorem wr_w (x0 x1 x2 x3 x4:Int):W ⟨wr x0,wr x1,wr x2,wr x3,wr x4⟩:=by simp only [W,wr];omega
theorem wr_id {x:Int} (h:0≤x∧x≤18446744073709551615):wr x=x:=by unfold wr;omega
theorem addE_r {a b:E} (ha:R a) (hb:R b):R (addE a b)∧∃ k,val (addE a b)=val a+val b+p*k:=by
 have e:addE a b=carr ⟨a.a0+b.a0,a.a1+b.a1,a.a2+b.a2,a.a3+b.a3,a.a4+b.a4⟩:=by
  simp only [R] at ha hb
  unfold addE
  rw [wr_id (by omega),wr_id (by omega),wr_id (by omega),wr_id (by omega),wr_id (by omega)]
 rw [e]
 refine ⟨carr_r (by simp only [R] at *;omega),-((a.a4+b.a4) / 2251799813685248),?_⟩
 rw [val_carr]
 simp only [val]
 grind
def subE (a b:E):E:=carr ⟨wr (wr (a.a0+wr (9007199254740988-b.a0))-72),wr (a.a1+wr (9007199254740988-b.a1)),wr (a.a2+wr (9007199254740988-b.a2)),wr (a.a3+wr (9007199254740988-b.a3)),wr (a.a4+wr (9007199254740988-b.a4))⟩
theorem subE_w (a b:E):W (subE a b):=carr_w (wr_w _ _ _ _ _)
theorem subE_r {a b:E} (ha:R a) (hb:R b):R (subE a b)∧∃ k,val (subE a b)=val a-val b+p*k:=by
 have e:subE a b=carr ⟨a.a0+(9007199254740988-b.a0)-72,a.a1+(9007199254740988-b.a1),a.a2+(9007199254740988-b.a2),a.a3+(9007199254740988-b.a3),a.a4+(9007199254740988-b.a4)⟩:=by
  simp only [R] at ha hb
  unfold subE
  simp only [wr_id (x:=9007199254740988-b.a0) (by omega),wr_id (x:=9007199254740988-b.a1) (by omega),wr_id (x:=9007199254740988-b.a2) (by omega),wr_id (x:=9007199254740988-b.a3) (by omega),wr_id (x:=9007199254740988-b.a4) (by omega)]
  simp only [wr_id (x:=a.a0+(9007199254740988-b.a0)) (by omega)]
  rw [wr_id (by omega),wr_id (by omega),wr_id (by omega),wr_id (by omega),wr_id (by omega)]
 rw [e]
 refine ⟨carr_r (by simp only [R] at *;omega),4-((a.a4+(9007199254740988-b.a4)) / 2251799813685248),?_⟩
 rw [val_carr]
 simp only [val,p]
 grind
def t5 (x0 y0 x1 y1 x2 y2 x3 y3 x4 y4:Int):Int:=(x0*y0+x1*y1+x2*y2+x3*y3+x4*y4) % 340282366920938463463374607431768211456
def lw (T:Int):Int:=T % 2251799813685248
def up (T:Int):Int:=wr (T / 2251799813685248)
def mulT (T0 T1 T2 T3 T4:Int):E:=⟨wr (lw T0+up T4*19 % 18446744073709551616 % 2251799813685248),wr (wr (lw T1+up T0)+wr (up T4*19 / 2251799813685248)),wr (lw T2+up T1),wr (lw T3+up T2),wr (lw T4+up T3)⟩
def mulE (a b:E):E :=
 carr (carr (mulT (t5 a.a0 b.a0 a.a1 (wr (19*b.a4)) a.a2 (wr (19*b.a3)) a.a3 (wr (19*b.a2)) a.a4 (wr (19*b.a1)))
  (t5 a.a0 b.a1 a.a1 b.a0 a.a2 (wr (19*b.a4)) a.a3 (wr (19*b.a3)) a.a4 (wr (19*b.a2)))
  (t5 a.a0 b.a2 a.a1 b.a1 a.a2 b.a0 a.a3 (wr (19*b.a4)) a.a4 (wr (19*b.a3)))
  (t5 a.a0 b.a3 a.a1 b.a2 a.a2 b.a1 a.a3 b.a0 a.a4 (wr (19*b.a4)))
  (t5 a.a0 b.a4 a.a1 b.a3 a.a2 b.a2 a.a3 b.a1 a.a4 b.a0)))
theorem mulT_w (T0 T1 T2 T3 T4:Int):W (mulT T0 T1 T2 T3 T4):=wr_w _ _ _ _ _
theorem mulE_w (a b:E):W (mulE a b):=carr_w (carr_w (mulT_w _ _ _ _ _))
theorem prod_le {a b:Int} (ha:0≤a∧a<4503599627370496) (hb:0≤b∧b<4503599627370496):0≤a*b∧a*b≤20282409603651670423947251286016:=by
 refine ⟨Int.mul_nonneg ha.1 hb.1,?_⟩
 have:=Int.mul_le_mul (show a≤4503599627370496 by omega) (show b≤4503599627370496 by omega) hb.1 (by omega)
 simpa using this
theorem mulE_r {a b:E} (ha:R a) (hb:R b):R (mulE a b)∧∃ k,val (mulE a b)=val a*val b+p*k:=by
 obtain ⟨a0,a1,a2,a3,a4⟩:=a
 obtain ⟨b0,b1,b2,b3,b4⟩:=b
 obtain ⟨k,hk⟩:=val_conv ⟨a0,a1,a2,a3,a4⟩ ⟨b0,b1,b2,b3,b4⟩
 rw [hk]
 simp only [R] at ha hb
 obtain ⟨ha0,ha1,ha2,ha3,ha4⟩:=ha
 obtain ⟨hb0,hb1,hb2,hb3,hb4⟩:=hb
 have w19:∀ {x:Int},0≤x∧x<4503599627370496→wr (19*x)=19*x:=fun h=>wr_id (by omega)
 simp only [mulE,w19 hb1,w19 hb2,w19 hb3,w19 hb4]
 have e:∀ x y:Int,x*(19*y)=19*(x*y):=fun x y=>by rw [← Int.mul_assoc,Int.mul_comm x 19,Int.mul_assoc]
 simp only [t5,e,conv]
 have p00:=prod_le ha0 hb0;have p01:=prod_le ha0 hb1;have p02:=prod_le ha0 hb2;have p03:=prod_le ha0 hb3;have p04:=prod_le ha0 hb4
 have p10:=prod_le ha1 hb0;have p11:=prod_le ha1 hb1;have p12:=prod_le ha1 hb2;have p13:=prod_le ha1 hb3;have p14:=prod_le ha1 hb4
 have p20:=prod_le ha2 hb0;have p21:=prod_le ha2 hb1;have p22:=prod_le ha2 hb2;have p23:=prod_le ha2 hb3;have p24:=prod_le ha2 hb4
 have p30:=prod_le ha3 hb0;have p31:=prod_le ha3 hb1;have p32:=prod_le ha3 hb2;have p33:=prod_le ha3 hb3;have p34:=prod_le ha3 hb4
 have p40:=prod_le ha4 hb0;have p41:=prod_le ha4 hb1;have p42:=prod_le ha4 hb2;have p43:=prod_le ha4 hb3;have p44:=prod_le ha4 hb4
 generalize hr0:a0*b0+19*(a1*b4)+19*(a2*b3)+19*(a3*b2)+19*(a4*b1)=r0
 generalize hr1:a0*b1+a1*b0+19*(a2*b4)+19*(a3*b3)+19*(a4*b2)=r1
 generalize hr2:a0*b2+a1*b1+a2*b0+19*(a3*b4)+19*(a4*b3)=r2
 generalize hr3:a0*b3+a1*b2+a2*b1+a3*b0+19*(a4*b4)=r3
 generalize hr4:a0*b4+a1*b3+a2*b2+a3*b1+a4*b0=r4
 have q0:0≤r0∧r0≤1926828912346908690274988872171520:=by omega
 have q1:0≤r1∧r1≤1926828912346908690274988872171520:=by omega
 have q2:0≤r2∧r2≤1926828912346908690274988872171520:=by omega
 have q3:0≤r3∧r3≤1926828912346908690274988872171520:=by omega
 have q4:0≤r4∧r4≤101412048018258352119736256430080:=by omega
 clear hr0 hr1 hr2 hr3 hr4 p00 p01 p02 p03 p04 p10 p11 p12 p13 p14 p20 p21 p22 p23 p24 p30 p31 p32 p33 p34 p40 p41 p42 p43 p44 hk
 have m:∀ {r:Int},0≤r∧r≤1926828912346908690274988872171520→r % 340282366920938463463374607431768211456=r:=fun h=>by omega
 rw [m q0,m q1,m q2,m q3,m (by omega)]
 have u:∀ {r:Int},0≤r∧r≤1926828912346908690274988872171520→up r=r / 2251799813685248:=fun h=>by unfold up wr;omega
 have hM:mulT r0 r1 r2 r3 r4=⟨r0 % 2251799813685248+r4 / 2251799813685248*19 % 2251799813685248,r1 % 2251799813685248+r0 / 2251799813685248+r4 / 2251799813685248*19 / 2251799813685248,r2 % 2251799813685248+r1 / 2251799813685248,r3 % 2251799813685248+r2 / 2251799813685248,r4 % 2251799813685248+r3 / 2251799813685248⟩:=by
  unfold mulT lw
  rw [u q0,u q1,u q2,u q3,u (r:=r4) (by omega)]
  have em:r4 / 2251799813685248*19 % 18446744073709551616 % 2251799813685248=r4 / 2251799813685248*19 % 2251799813685248:=Int.emod_emod_of_dvd _ (by decide)
  rw [em]
  clear em u m w19 e ha0 ha1 ha2 ha3 ha4 hb0 hb1 hb2 hb3 hb4
  simp only [E.mk.injEq,wr]
  refine ⟨?_,?_,?_,?_,?_⟩ <;> omega
 rw [hM]
 clear hM u m w19 e ha0 ha1 ha2 ha3 ha4 hb0 hb1 hb2 hb3 hb4
 have h1:val ⟨r0 % 2251799813685248+r4 / 2251799813685248*19 % 2251799813685248,r1 % 2251799813685248+r0 / 2251799813685248+r4 / 2251799813685248*19 / 2251799813685248,r2 % 2251799813685248+r1 / 2251799813685248,r3 % 2251799813685248+r2 / 2251799813685248,r4 % 2251799813685248+r3 / 2251799813685248⟩ =
   val ⟨r0,r1,r2,r3,r4⟩-p*(r4 / 2251799813685248):=by
  simp only [val,p]
  omega
 refine ⟨?_,?_⟩
 ·refine carr_r ?_
  simp only [carr]
  omega
 rw [val_carr,val_carr,h1]
 generalize val ⟨r0,r1,r2,r3,r4⟩=V
 generalize (carr ⟨r0 % 2251799813685248+r4 / 2251799813685248*19 % 2251799813685248,r1 % 2251799813685248+r0 / 2251799813685248+r4 / 2251799813685248*19 / 2251799813685248,r2 % 2251799813685248+r1 / 2251799813685248,r3 % 2251799813685248+r2 / 2251799813685248,r4 % 2251799813685248+r3 / 2251799813685248⟩).a4 / 2251799813685248=x
 generalize (r4 % 2251799813685248+r3 / 2251799813685248) / 2251799813685248=y
 generalize r4 / 2251799813685248=z
 exact ⟨-k-z-y-x,by simp only [p];omega⟩
def D (e:E):Prop:=(0≤e.a0∧e.a0<2251799813685248)∧(0≤e.a1∧e.a1<2251799813685248)∧(0≤e.a2∧e.a2<2251799813685248)∧(0≤e.a3∧e.a3<2251799813685248)∧(0≤e.a4∧e.a4<2251799813685248)
theorem D.inj {a b:E} (ha:D a) (hb:D b) (h:val a=val b):a=b:=by
 obtain ⟨x0,x1,x2,x3,x4⟩:=a
 obtain ⟨y0,y1,y2,y3,y4⟩:=b
 simp only [D,val,E.mk.injEq] at *
 omega
def qof (e:E):Int:=(e.a4+(e.a3+(e.a2+(e.a1+(e.a0+19) / 2251799813685248) / 2251799813685248) / 2251799813685248) / 2251799813685248) / 2251799813685248
def last (e:E):E :=
 let b0:=e.a0
 let b1:=e.a1+b0 / 2251799813685248
 let b2:=e.a2+b1 / 2251799813685248
 let b3:=e.a3+b2 / 2251799813685248
 let b4:=e.a4+b3 / 2251799813685248
 ⟨b0 % 2251799813685248,b1 % 2251799813685248,b2 % 2251799813685248,b3 % 2251799813685248,b4 % 2251799813685248⟩
def canonC (c:E):E:=last ⟨c.a0+19*qof c,c.a1,c.a2,c.a3,c.a4⟩
def canon (e:E):E:=canonC (carr (carr e))
theorem canonC_spec {c:E} (h:(0≤c.a0∧c.a0<2251799813685348)∧(0≤c.a1∧c.a1≤2251799813685248)∧(0≤c.a2∧c.a2≤2251799813685248)∧(0≤c.a3∧c.a3≤2251799813685248)∧(0≤c.a4∧c.a4≤2251799813685248)):D (canonC c)∧val (canonC c)=val c % p:=by
 obtain ⟨x0,x1,x2,x3,x4⟩:=c
 have hq:qof ⟨x0,x1,x2,x3,x4⟩=(val ⟨x0,x1,x2,x3,x4⟩+19) / 57896044618658097711785492504343953926634992332820282019728792003956564819968:=by
  simp only [qof,val]
  omega
 simp only at h
 have hv:0≤val ⟨x0,x1,x2,x3,x4⟩∧val ⟨x0,x1,x2,x3,x4⟩<2*p:=by
  simp only [val,p];omega
 simp only [canonC]
 rw [hq]
 generalize hV:val ⟨x0,x1,x2,x3,x4⟩=V at *
 have hl:∀ y0 y1 y2 y3 y4:Int,val (last ⟨y0,y1,y2,y3,y4⟩)=val ⟨y0,y1,y2,y3,y4⟩ % 57896044618658097711785492504343953926634992332820282019728792003956564819968∧D (last ⟨y0,y1,y2,y3,y4⟩):=by
  intro y0 y1 y2 y3 y4
  simp only [last,val,D]
  omega
 obtain ⟨h1,h2⟩:=hl (x0+19*((V+19) / 57896044618658097711785492504343953926634992332820282019728792003956564819968)) x1 x2 x3 x4
 refine ⟨h2,?_⟩
 rw [h1]
 have h3:val ⟨x0+19*((V+19) / 57896044618658097711785492504343953926634992332820282019728792003956564819968),x1,x2,x3,x4⟩=V+19*((V+19) / 57896044618658097711785492504343953926634992332820282019728792003956564819968):=by
  rw [← hV];simp only [val];omega
 rw [h3]
 clear h1 h2 h3 hl hq h hV
 simp only [p] at *
 have hq01:(V+19) / 57896044618658097711785492504343953926634992332820282019728792003956564819968=0∨(V+19) / 57896044618658097711785492504343953926634992332820282019728792003956564819968=1:=by omega
 rcases hq01 with h | h <;> rw [h] <;> omega
theorem canon_spec {e:E} (h:R e):D (canon e)∧val (canon e)=val e % p:=by
 have h1:(0≤(carr e).a0∧(carr e).a0<2251799813685348)∧(0≤(carr e).a1∧(carr e).a1≤2251799813685248)∧(0≤(carr e).a2∧(carr e).a2≤2251799813685248)∧(0≤(carr e).a3∧(carr e).a3≤2251799813685248)∧(0≤(carr e).a4∧(carr e).a4≤2251799813685248):=by
  simp only [R,carr] at *;omega
 have h2:(0≤(carr (carr e)).a0∧(carr (carr e)).a0<2251799813685348)∧(0≤(carr (carr e)).a1∧(carr (carr e)).a1≤2251799813685248)∧(0≤(carr (carr e)).a2∧(carr (carr e)).a2≤2251799813685248)∧(0≤(carr (carr e)).a3∧(carr (carr e)).a3≤2251799813685248)∧(0≤(carr (carr e)).a4∧(carr (carr e)).a4≤2251799813685248):=by
  generalize carr e=c at *
  simp only [carr];omega
 obtain ⟨h3,h4⟩:=canonC_spec h2
 refine ⟨h3,?_⟩
 unfold canon
 rw [h4,val_carr,val_carr,Int.sub_emod,Int.mul_emod_right]
 simp [Int.sub_emod]
end Fe
namespace Go.Proofs.YtnopjabcdloepaaGreatDoor
open Go.RowKit
def Blk (w:World) (g:Nat) (t:TypeId) (cs:Array Value):Prop:=w.heap[g]?=some (.cells cs t (0,0))
theorem Blk.lt {w:World} {g:Nat} {t:TypeId} {cs:Array Value} (h:Blk w g t cs):g<w.heap.size:=(Array.getElem?_eq_some_iff.1 h).1
theorem Blk.cell {w:World} {g:Nat} {t:TypeId} {cs:Array Value} (h:Blk w g t cs) (i:Nat):w.cell? ⟨g,i,none⟩=cs[i]?:=cell_of_row w g i cs t (0,0) h
theorem Blk.frozen {w:World} {g:Nat} {t:TypeId} {cs:Array Value} (h:Blk w g t cs) (i:Nat):w.frozen? ⟨g,i,none⟩=false:=frozen_of_row w g i cs t h
theorem Blk.below {w w':World} {g:Nat} {t:TypeId} {cs:Array Value} (h:Blk w g t cs) (hb:Below w.heap.size w w'):Blk w' g t cs:=(hb.block g h.lt).trans h
theorem Blk.new (w:World) (t:TypeId) (cs:Array Value):Blk (w.alloc (.cells cs t)) w.heap.size t cs:=heap_alloc_new w _
theorem Blk.drew {w:World} {g:Nat} {t:TypeId} {cs:Array Value} (h:Blk w g t cs):Blk w.drew g t cs:=h
theorem Blk.alloc {w:World} {g:Nat} {t:TypeId} {cs:Array Value} (h:Blk w g t cs) (o:Obj):Blk (w.alloc o) g t cs:=(Below.heap_alloc w o g h.lt).trans h
theorem Blk.set_ {w:World} {g:Nat} {t:TypeId} {cs:Array Value} (h:Blk w g t cs) (i:Nat) (u:Value):Blk (w.setCell ⟨g,i,none⟩ u) g t (cs.setIfInBounds i u):=by
 unfold Blk at h ⊢
 simp [World.setCell,Array.getElem?_modify,h]
theorem Blk.far {w:World} {g:Nat} {t:TypeId} {cs:Array Value} (h:Blk w g t cs) {p:Addr} (hp:g≠p.block) (u:Value):Blk (w.setCell p u) g t cs:=(Below.heap_setCell w p u g hp).trans h
theorem Blk.grown {w w':World} {g:Nat} {t:TypeId} {cs:Array Value} {row:Option Nat} (h:Blk w g t cs) (hb:w.grownBy w' row) (hg:some g≠row):Blk w' g t cs:=(hb.block g h.lt hg).trans h
theorem nof {p:Prop} (h:false=true):p:=by cases h
theorem blk_at {w:World} {g g':Nat} {t:TypeId} {cs:Array Value} (e:g'=g) (h:Blk w g' t cs):Blk w g t cs:=e ▸ h
theorem blk_setCells {g:Nat} {t:TypeId}:∀ (vs:List Value) (o:Nat) (w:World) (cs:List Value),Blk w g t (cs++vs).toArray→∀ us:List Value,us.length=vs.length→cs.length=o →
  Blk (w.setCells g o us) g t (cs++us).toArray
 | [],o,w,cs,h,[],_,_=>h
 | v::vs,o,w,cs,h,u::us,hl,ho=>by
  have h1:=h.set_ o u
  have e:((cs++v::vs).toArray.setIfInBounds o u)=((cs++[u])++vs).toArray:=by
   subst ho
   simp
  rw [e] at h1
  have:=blk_setCells vs (o+1) _ (cs++[u]) h1 us (by simpa using hl) (by simp [ho])
  simpa [World.setCells] using this
theorem grown_setCells (g:Nat):∀ (us:List Value) (o:Nat) (w:World),w.grownBy (w.setCells g o us) (some g)
 | [],o,w=>⟨rfl,rfl,rfl,Nat.le_refl _,fun _ _ _=>rfl⟩
 | u::us,o,w=>by
  have h:=grown_setCells g us (o+1) (w.setCell ⟨g,o,none⟩ u)
  refine ⟨h.os,h.tape,h.output,?_,fun i hi hne=>?_⟩
  ·have hs:(w.setCell ⟨g,o,none⟩ u).heap.size=w.heap.size:=by simp [World.setCell]
   have:=h.size
   rw [hs] at this
   exact this
  have hne':i≠g:=fun e=>hne (by rw [e])
  exact (h.block i (by simpa [World.setCell] using hi) hne).trans (Below.heap_setCell w _ _ i hne')
theorem wpList_store_blk {P:Program} {ops:Array Oper} {rest:List Oper} {op:Oper} {a:Act} {w:World} {Q:Exit→Act→World→Prop} (hgd:op.guard=none) (ty:TypeId) (x y:Operand) (ho:op.op=.store ty x y)
  (g:Nat) (t:TypeId) (old cells:Array Value) (hx:a.eval x=.pointer (some ⟨g,0,none⟩)) (hy:a.eval y=.agg cells) (hg:Blk w g t old) (hs:old.size=cells.size)
  (hi:(P.info? ty).map (·.size)=some cells.size) (h1:cells.all (·.oneCell')=true)
  (h:∀ w',Blk w' g t cells→w.grownBy w' (some g)→w'.heap.size=w.heap.size→wpList P ops Q rest (a.put op.dst undef) w'):wpList P ops Q (op::rest) a w:=by
 refine wpList_store_mid hgd ty x y ho g 0 cells hx hy (fun j hj=>?_) hi h1 (h _ ?_ (grown_setCells g _ 0 w) ?_)
 ·rw [Nat.zero_add,hg.cell j,Array.getElem?_eq_getElem (by omega)]
  exact ⟨rfl,hg.frozen j⟩
 ·have:=blk_setCells (g:=g) (t:=t) old.toList 0 w [] (by simpa using hg) cells.toList (by simp [hs]) rfl
  simpa using this
 have hsz:∀ (us:List Value) (o:Nat) (w:World),(w.setCells g o us).heap.size=w.heap.size:=by
  intro us
  induction us with
  | nil=>intro o w;rfl
  | cons u us ih=>intro o w;rw [World.setCells,ih];simp [World.setCell]
 exact hsz _ _ _
theorem bcell {W w1:World} (hb:Below W.heap.size W w1):(∀ b o,b<W.heap.size→w1.cell? ⟨b,o,none⟩=W.cell? ⟨b,o,none⟩)∧(∀ b o,b<W.heap.size→w1.frozen? ⟨b,o,none⟩=W.frozen? ⟨b,o,none⟩) :=
 ⟨fun b o h=>hb.cell (p:=⟨b,o,none⟩) h,fun b o h=>hb.frozen (p:=⟨b,o,none⟩) h⟩
theorem below_after {w W w1:World} (h:Below w.heap.size w W) (hb:Below W.heap.size W w1):Below w.heap.size w w1:=h.trans (hb.mono h.size)
theorem at_world {P:Program} {c:Code} {Q:Exit→Act→World→Prop} {a:Act} {W:World} (h:∀ W0,W0=W→Code.wp P c Q a W0):Code.wp P c Q a W:=h W rfl
end Go.Proofs.YtnopjabcdloepaaGreatDoor
namespace Go.Proofs.YtnopjabcdloepaaGreatDoor
open Go.RowKit
def Post5 (x:Fe.E) (w:World) (e:Ending) (w':World):Prop :=
 ∃ r0 r1 r2 r3 r4:Int,e=.returned (.agg #[.int .u64 r0,.int .u64 r1,.int .u64 r2,.int .u64 r3,.int .u64 r4])∧Fe.E.mk r0 r1 r2 r3 r4=x∧Below w.heap.size w w'
theorem Post5.mk' {x:Fe.E} {w w':World} {r0 r1 r2 r3 r4:Int} (h:Fe.E.mk r0 r1 r2 r3 r4=x) (hb:Below w.heap.size w w') :
  Post5 x w (.returned (.agg #[.int .u64 r0,.int .u64 r1,.int .u64 r2,.int .u64 r3,.int .u64 r4])) w':=⟨r0,r1,r2,r3,r4,rfl,h,hb⟩
theorem and51 {a:Int} (h:0≤a∧a≤18446744073709551615):bits .and .u64 a 2251799813685247=a % 2251799813685248:=by
 rw [u64_and a _ h.1 (by omega) (by decide) (by decide)]
 have e:(2251799813685247:Int).toNat=2251799813685247:=rfl
 rw [e,nat_mask51]
 omega
theorem wr_eq (x:Int):IntKind.u64.wrap x=Fe.wr x:=by rw [IntKind.wrap_u64];rfl
theorem carried_eq {a0 a1 a2 a3 a4:Int} (h:Fe.W ⟨a0,a1,a2,a3,a4⟩) :
  Fe.E.mk (IntKind.u64.wrap (bits .and .u64 a0 2251799813685247+IntKind.u64.wrap (19*(a4 / 2251799813685248)))) (IntKind.u64.wrap (bits .and .u64 a1 2251799813685247+a0 / 2251799813685248))
   (IntKind.u64.wrap (bits .and .u64 a2 2251799813685247+a1 / 2251799813685248)) (IntKind.u64.wrap (bits .and .u64 a3 2251799813685247+a2 / 2251799813685248)) (IntKind.u64.wrap (bits .and .u64 a4 2251799813685247+a3 / 2251799813685248))=Fe.carr ⟨a0,a1,a2,a3,a4⟩:=by
 obtain ⟨h0,h1,h2,h3,h4⟩:=h
 simp only at h0 h1 h2 h3 h4
 rw [and51 h0,and51 h1,and51 h2,and51 h3,and51 h4]
 simp only [Fe.carr,wr_eq,Fe.E.mk.injEq,Fe.wr]
 omega
set_option maxRecDepth 20000 in
set_option maxHeartbeats 400000 in
theorem carried_c (a0 a1 a2 a3 a4:Int) (hw:Fe.W ⟨a0,a1,a2,a3,a4⟩) (w:World) :
  Calls Tryz.prog 324 #[.agg #[.int .u64 a0,.int .u64 a1,.int .u64 a2,.int .u64 a3,.int .u64 a4]] w (Post5 (Fe.carr ⟨a0,a1,a2,a3,a4⟩) w):=by
 have he:=Lib.hid (carried_eq hw)
 clear hw
 go_enter Tryz.func324,Tryz.ntmps324
 go_wp2
 refine wp_loop_rounds 5 ?_
 rw [rounds_succ]
 go_wp2
 go_region
 go_wp2
 rw [rounds_succ]
 go_wp2
 go_region
 go_wp2
 rw [rounds_succ]
 go_wp2
 go_region
 go_wp2
 rw [rounds_succ]
 go_wp2
 go_region
 go_wp2
 rw [rounds_succ]
 go_wp2
 go_returns
 exact Post5.mk' he.out (by go_grown)
set_option maxRecDepth 20000 in
set_option maxHeartbeats 400000 in
theorem one_c (w:World):Calls Tryz.prog 254 #[] w (Post5 ⟨1,0,0,0,0⟩ w):=by
 go_enter Tryz.func254,Tryz.ntmps254
 go_wp2
 go_returns
 exact Post5.mk' rfl (by go_grown)
set_option maxRecDepth 20000 in
set_option maxHeartbeats 400000 in
theorem add_c (a0 a1 a2 a3 a4 b0 b1 b2 b3 b4:Int) (w:World) :
  Calls Tryz.prog 255 #[.agg #[.int .u64 a0,.int .u64 a1,.int .u64 a2,.int .u64 a3,.int .u64 a4],.agg #[.int .u64 b0,.int .u64 b1,.int .u64 b2,.int .u64 b3,.int .u64 b4]] w (Post5 (Fe.addE ⟨a0,a1,a2,a3,a4⟩ ⟨b0,b1,b2,b3,b4⟩) w):=by
 go_enter Tryz.func255,Tryz.ntmps255
 go_wp2
 refine wp_loop_rounds 6 ?_
 rw [rounds_succ]
 go_wp2
 go_region
 go_wp2
 rw [rounds_succ]
 go_wp2
 go_region
 go_wp2
 rw [rounds_succ]
 go_wp2
 go_region
 go_wp2
 rw [rounds_succ]
 go_wp2
 go_region
 go_wp2
 rw [rounds_succ]
 go_wp2
 go_region
 go_wp2
 rw [rounds_succ]
 go_wp2_with fail
 refine (carried_c _ _ _ _ _ (by simp only [wr_eq];exact Fe.wr_w _ _ _ _ _) _).mono ?_
 rintro e w1 ⟨r0,r1,r2,r3,r4,rfl,hr,hb⟩
 have hr':=Lib.hid hr
 clear hr
 obtain ⟨hc,hf⟩:=bcell hb
 go_wp2
 refine bodyPost_ret (v:=.agg #[.int .u64 r0,.int .u64 r1,.int .u64 r2,.int .u64 r3,.int .u64 r4]) (by simp [results,Tryz.results255,go_sem,hc]) rfl ?_
 refine Post5.mk' ?_ ?_
 ·rw [hr'.out];simp only [wr_eq];rfl
 clear hc hf hr'
 go_grown
 exact below_after (by go_grown) hb
theorem mul64_hi {a b:Int} (ha:0≤a∧a≤18446744073709551615) (hb:0≤b∧b≤18446744073709551615) :
  (IntKind.u64.wrap
      (IntKind.u64.wrap
        (IntKind.u64.wrap (a / 4294967296*(b / 4294967296)) +
         IntKind.u64.wrap
           (IntKind.u64.wrap (a / 4294967296*bits BinOp.and IntKind.u64 b 4294967295) +
            IntKind.u64.wrap
              (bits BinOp.and IntKind.u64 a 4294967295*bits BinOp.and IntKind.u64 b 4294967295) /
             4294967296) /
          4294967296) +
       IntKind.u64.wrap
         (bits BinOp.and IntKind.u64
           (IntKind.u64.wrap
            (IntKind.u64.wrap (a / 4294967296*bits BinOp.and IntKind.u64 b 4294967295) +
             IntKind.u64.wrap
               (bits BinOp.and IntKind.u64 a 4294967295*bits BinOp.and IntKind.u64 b 4294967295) /
              4294967296))
           4294967295 +
          IntKind.u64.wrap (bits BinOp.and IntKind.u64 a 4294967295*(b / 4294967296))) /
        4294967296))=a*b / 18446744073709551616:=by
 have m:∀ {x:Int},0≤x∧x≤18446744073709551615→bits .and .u64 x 4294967295=x % 4294967296:=by
  intro x h
  rw [u64_and x _ h.1 (by omega) (by decide) (by decide)]
  have e:(4294967295:Int).toNat=4294967295:=rfl
  rw [e,nat_mask32]
  omega
 rw [m ha,m hb,m (by rw [IntKind.wrap_u64];omega)]
 simp only [IntKind.wrap_u64]
 exact mul64_arith a b ha.1 (by omega) hb.1 (by omega)
set_option maxRecDepth 20000 in
set_option maxHeartbeats 400000 in
theorem mul64_c (a b:Int) (ha:0≤a∧a≤18446744073709551615) (hb:0≤b∧b≤18446744073709551615) (w:World) :
  Calls Tryz.prog 327 #[.int .u64 a,.int .u64 b] w fun e w'=>e=.returned (.tuple #[.int .u64 (a*b / 18446744073709551616),.int .u64 (a*b % 18446744073709551616)])∧w=w':=by
 have he:=Lib.hid (mul64_hi ha hb)
 clear ha hb
 go_enter Tryz.func327,Tryz.ntmps327
 go_wp2
 go_ret2
 refine ⟨?_,rfl⟩
 rw [he.out,IntKind.wrap_u64]
 rfl
theorem parts_hi {hi lo:Int} (_hh:0≤hi∧hi≤18446744073709551615) (hl:0≤lo∧lo≤18446744073709551615) :
  bits .or .u64 (IntKind.u64.wrap (hi*8192)) (lo / 2251799813685248)=Fe.wr ((hi*18446744073709551616+lo) / 2251799813685248):=by
 rw [u64_or _ _ (by rw [IntKind.wrap_u64];omega) (by rw [IntKind.wrap_u64];omega) (by omega) (by omega)]
 rw [nat_join 13 _ _ (by rw [IntKind.wrap_u64];omega) (by omega)]
 rw [IntKind.wrap_u64]
 unfold Fe.wr
 omega
set_option maxRecDepth 20000 in
set_option maxHeartbeats 400000 in
theorem parts_c (hi lo:Int) (hh:0≤hi∧hi≤18446744073709551615) (hl:0≤lo∧lo≤18446744073709551615) (w:World) :
  Calls Tryz.prog 326 #[.agg #[.int .u64 hi,.int .u64 lo]] w fun e w' =>
   e=.returned (.tuple #[.int .u64 (lo % 2251799813685248),.int .u64 (Fe.wr ((hi*18446744073709551616+lo) / 2251799813685248))])∧w'=(w.alloc (.cells #[.int .u64 hi,.int .u64 lo] 393)).drew:=by
 have h1:=Lib.hid (parts_hi hh hl)
 have h2:=Lib.hid (and51 hl)
 clear hh hl
 go_enter Tryz.func326,Tryz.ntmps326
 go_wp2
 go_region
 go_wp2
 go_ret2
 refine ⟨?_,rfl⟩
 rw [h1.out,h2.out]
 rfl
end Go.Proofs.YtnopjabcdloepaaGreatDoor
namespace Go.Proofs.YtnopjabcdloepaaGreatDoor
open Go.RowKit
theorem run_add64_at (x y:Int) (hx:0≤x) (hy:0≤y) (w:World) :
  (callFunc 369 #[.int .u64 x,.int .u64 y,.int .u64 0]).run Tryz.prog w=.ok (.value (.tuple #[.int .u64 ((x+y+0) % 18446744073709551616),.int .u64 ((x+y+0) / 18446744073709551616)])) w:=by
 rw [run_callFunc_extern (e:=add64Entry) Tryz.func369 (by kernel_rfl) (by kernel_rfl) (by kernel_rfl) (by kernel_rfl),run_add64 x y 0 hx hy (by decide) (by decide)]
 rfl
def tot (T x y:Int):Int:=(T+x*y) % 340282366920938463463374607431768211456
def HiW (T:Int):Int:=T / 18446744073709551616
def LoW (T:Int):Int:=T % 18446744073709551616
def T128 (T:Int):Prop:=0≤T∧T<340282366920938463463374607431768211456
def U64 (x:Int):Prop:=0≤x∧x≤18446744073709551615
theorem t0:T128 0:=by unfold T128;omega
theorem h0:(0:Int)=HiW 0:=by unfold HiW;omega
theorem l0:(0:Int)=LoW 0:=by unfold LoW;omega
theorem tot_t (T x y:Int):T128 (tot T x y):=by unfold T128 tot;omega
theorem hadd_eq {T x y:Int} (_h:T128 T):(LoW T+x*y) % 18446744073709551616=LoW (tot T x y) ∧
  IntKind.u64.wrap (HiW T+IntKind.u64.wrap (x*y / 18446744073709551616+(LoW T+x*y % 18446744073709551616) / 18446744073709551616))=HiW (tot T x y):=by
 simp only [IntKind.wrap_u64]
 unfold LoW HiW tot
 generalize x*y=z
 omega
set_option maxRecDepth 20000 in
set_option maxHeartbeats 400000 in
theorem hadd_c (b:Nat) (T h l x y:Int) (hT:T128 T) (hh:h=HiW T) (hl':l=LoW T) (hx:U64 x) (hy:U64 y) (w:World)
  (c0:w.cell? ⟨b,0,none⟩=some (.int .u64 h)) (c1:w.cell? ⟨b,1,none⟩=some (.int .u64 l)) (f0:w.frozen? ⟨b,0,none⟩=false) (f1:w.frozen? ⟨b,1,none⟩=false) :
  Calls Tryz.prog 355 #[.pointer (some ⟨b,0,none⟩),.int .u64 x,.int .u64 y] w fun e w'=>e=.returned (.tuple #[]) ∧
   w'=(w.setCell ⟨b,1,none⟩ (.int .u64 (LoW (tot T x y)))).setCell ⟨b,0,none⟩ (.int .u64 (HiW (tot T x y))):=by
 subst hh hl'
 have hl:0≤LoW T:=by unfold LoW;omega
 obtain ⟨e1,e2⟩:=hadd_eq (x:=x) (y:=y) hT
 have e1:=Lib.hid e1
 have e2:=Lib.hid e2
 clear hT
 go_enter Tryz.func355,Tryz.ntmps355
 go_wp2_with fail
 refine (mul64_c _ _ hx hy _).mono ?_
 rintro e w1 ⟨rfl,rfl⟩
 have ha:=run_add64_at (LoW T) (x*y % 18446744073709551616) hl (by omega)
 clear hl hx hy
 go_wp2
 go_returns
 exact ⟨rfl,by first | rfl | rw [e1.out,e2.out]⟩
def tot5 (x0 y0 x1 y1 x2 y2 x3 y3 x4 y4:Int):Int:=(x0*y0+x1*y1+x2*y2+x3*y3+x4*y4) % 340282366920938463463374607431768211456
theorem tot5_eq (x0 y0 x1 y1 x2 y2 x3 y3 x4 y4:Int):tot (tot (tot (tot (tot 0 x0 y0) x1 y1) x2 y2) x3 y3) x4 y4=tot5 x0 y0 x1 y1 x2 y2 x3 y3 x4 y4:=by
 unfold tot tot5
 omega
theorem tot5_t (x0 y0 x1 y1 x2 y2 x3 y3 x4 y4:Int):T128 (tot5 x0 y0 x1 y1 x2 y2 x3 y3 x4 y4):=by unfold T128 tot5;omega
def PostT (T:Int) (w:World) (e:Ending) (w':World):Prop :=
 ∃ hi lo:Int,e=.returned (.agg #[.int .u64 hi,.int .u64 lo])∧(hi=HiW T∧lo=LoW T)∧Below w.heap.size w w'
theorem PostT.mk' {T T':Int} {w w':World} (h:T'=T) (hb:Below w.heap.size w w'):PostT T w (.returned (.agg #[.int .u64 (HiW T'),.int .u64 (LoW T')])) w':=⟨_,_,rfl,⟨by rw [h],by rw [h]⟩,hb⟩
set_option maxRecDepth 20000 in
set_option maxHeartbeats 400000 in
theorem products_c (b:Nat) (x0 y0 x1 y1 x2 y2 x3 y3 x4 y4:Int) (hx0:U64 x0) (hy0:U64 y0) (hx1:U64 x1) (hy1:U64 y1) (hx2:U64 x2) (hy2:U64 y2) (hx3:U64 x3) (hy3:U64 y3) (hx4:U64 x4) (hy4:U64 y4) (w:World) (hb:b<w.heap.size)
  (c0:w.cell? ⟨b,0,none⟩=some (.int .u64 x0)) (c1:w.cell? ⟨b,1,none⟩=some (.int .u64 y0)) (c2:w.cell? ⟨b,2,none⟩=some (.int .u64 x1)) (c3:w.cell? ⟨b,3,none⟩=some (.int .u64 y1)) (c4:w.cell? ⟨b,4,none⟩=some (.int .u64 x2))
  (c5:w.cell? ⟨b,5,none⟩=some (.int .u64 y2)) (c6:w.cell? ⟨b,6,none⟩=some (.int .u64 x3)) (c7:w.cell? ⟨b,7,none⟩=some (.int .u64 y3)) (c8:w.cell? ⟨b,8,none⟩=some (.int .u64 x4)) (c9:w.cell? ⟨b,9,none⟩=some (.int .u64 y4)) :
  Calls Tryz.prog 325 #[.slice (some ⟨b,0,none⟩) 10 10] w (PostT (tot5 x0 y0 x1 y1 x2 y2 x3 y3 x4 y4) w):=by
 go_enter Tryz.func325,Tryz.ntmps325
 go_wp2
 have s1:IntKind.i64.wrap 1=1:=by decide
 have s3:IntKind.i64.wrap 3=3:=by decide
 have s5:IntKind.i64.wrap 5=5:=by decide
 have s7:IntKind.i64.wrap 7=7:=by decide
 have s9:IntKind.i64.wrap 9=9:=by decide
 refine wp_loop_rounds 6 ?_
 rw [rounds_succ]
 go_wp2
 refine wp_region_still_tail 10 (by kernel_rfl) (by kernel_rfl) ?_
 change wpStill _ _ (World.drew _) (fun a'=>wpList _ _ _ _ a' (World.drew _)) _ _
 simp only [List.take_succ_cons,List.take_zero,List.drop_succ_cons,List.drop_zero]
 repeat still_step
 refine wpStill_nil ?_
 go_wp2_with fail
 refine (hadd_c _ 0 _ _ x0 y0 t0 h0 l0 hx0 hy0 _ ?_ ?_ ?_ ?_).mono ?_
 ·simp [go_sem]
 ·simp [go_sem]
 ·simp [go_sem]
 ·simp [go_sem]
 rintro e w1 ⟨rfl,rfl⟩
 go_wp2
 rw [rounds_succ]
 go_wp2
 refine wp_region_still_tail 10 (by kernel_rfl) (by kernel_rfl) ?_
 change wpStill _ _ (World.drew _) (fun a'=>wpList _ _ _ _ a' (World.drew _)) _ _
 simp only [List.take_succ_cons,List.take_zero,List.drop_succ_cons,List.drop_zero]
 repeat still_step
 refine wpStill_nil ?_
 go_wp2_with fail
 refine (hadd_c _ (tot 0 x0 y0) _ _ x1 y1 (tot_t _ _ _) rfl rfl hx1 hy1 _ ?_ ?_ ?_ ?_).mono ?_
 ·simp [go_sem]
 ·simp [go_sem]
 ·simp [go_sem]
 ·simp [go_sem]
 rintro e w1 ⟨rfl,rfl⟩
 go_wp2
 rw [rounds_succ]
 go_wp2
 refine wp_region_still_tail 10 (by kernel_rfl) (by kernel_rfl) ?_
 change wpStill _ _ (World.drew _) (fun a'=>wpList _ _ _ _ a' (World.drew _)) _ _
 simp only [List.take_succ_cons,List.take_zero,List.drop_succ_cons,List.drop_zero]
 repeat still_step
 refine wpStill_nil ?_
 go_wp2_with fail
 refine (hadd_c _ (tot (tot 0 x0 y0) x1 y1) _ _ x2 y2 (tot_t _ _ _) rfl rfl hx2 hy2 _ ?_ ?_ ?_ ?_).mono ?_
 ·simp [go_sem]
 ·simp [go_sem]
 ·simp [go_sem]
 ·simp [go_sem]
 rintro e w1 ⟨rfl,rfl⟩
 go_wp2
 rw [rounds_succ]
 go_wp2
 refine wp_region_still_tail 10 (by kernel_rfl) (by kernel_rfl) ?_
 change wpStill _ _ (World.drew _) (fun a'=>wpList _ _ _ _ a' (World.drew _)) _ _
 simp only [List.take_succ_cons,List.take_zero,List.drop_succ_cons,List.drop_zero]
 repeat still_step
 refine wpStill_nil ?_
 go_wp2_with fail
 refine (hadd_c _ (tot (tot (tot 0 x0 y0) x1 y1) x2 y2) _ _ x3 y3 (tot_t _ _ _) rfl rfl hx3 hy3 _ ?_ ?_ ?_ ?_).mono ?_
 ·simp [go_sem]
 ·simp [go_sem]
 ·simp [go_sem]
 ·simp [go_sem]
 rintro e w1 ⟨rfl,rfl⟩
 go_wp2
 rw [rounds_succ]
 go_wp2
 refine wp_region_still_tail 10 (by kernel_rfl) (by kernel_rfl) ?_
 change wpStill _ _ (World.drew _) (fun a'=>wpList _ _ _ _ a' (World.drew _)) _ _
 simp only [List.take_succ_cons,List.take_zero,List.drop_succ_cons,List.drop_zero]
 repeat still_step
 refine wpStill_nil ?_
 go_wp2_with fail
 refine (hadd_c _ (tot (tot (tot (tot 0 x0 y0) x1 y1) x2 y2) x3 y3) _ _ x4 y4 (tot_t _ _ _) rfl rfl hx4 hy4 _ ?_ ?_ ?_ ?_).mono ?_
 ·simp [go_sem]
 ·simp [go_sem]
 ·simp [go_sem]
 ·simp [go_sem]
 rintro e w1 ⟨rfl,rfl⟩
 go_wp2
 rw [rounds_succ]
 go_wp2
 go_returns
 refine PostT.mk' ?_ (by go_grown)
 exact tot5_eq _ _ _ _ _ _ _ _ _ _
def Arr5 (w:World) (g:Nat) (x0 x1 x2 x3 x4:Int):Prop:=g<w.heap.size∧w.cell? ⟨g,0,none⟩=some (.int .u64 x0)∧w.cell? ⟨g,1,none⟩=some (.int .u64 x1)∧w.cell? ⟨g,2,none⟩=some (.int .u64 x2) ∧
 w.cell? ⟨g,3,none⟩=some (.int .u64 x3)∧w.cell? ⟨g,4,none⟩=some (.int .u64 x4)
theorem Arr5.below {w w':World} {g:Nat} {x0 x1 x2 x3 x4:Int} (h:Arr5 w g x0 x1 x2 x3 x4) (hb:Below w.heap.size w w'):Arr5 w' g x0 x1 x2 x3 x4:=by
 obtain ⟨hg,h0,h1,h2,h3,h4⟩:=h
 exact ⟨Nat.lt_of_lt_of_le hg hb.size,(hb.cell (p:=⟨g,0,none⟩) hg).trans h0,(hb.cell (p:=⟨g,1,none⟩) hg).trans h1,(hb.cell (p:=⟨g,2,none⟩) hg).trans h2,(hb.cell (p:=⟨g,3,none⟩) hg).trans h3,(hb.cell (p:=⟨g,4,none⟩) hg).trans h4⟩
theorem Arr5.alloc {w:World} {g:Nat} {x0 x1 x2 x3 x4:Int} (h:Arr5 w g x0 x1 x2 x3 x4) (o:Obj):Arr5 (w.alloc o) g x0 x1 x2 x3 x4:=h.below ((Below.refl _ _).alloc (Nat.le_refl _) o)
end Go.Proofs.YtnopjabcdloepaaGreatDoor
namespace Go.Proofs.YtnopjabcdloepaaGreatDoor
open Go.RowKit
section
variable {P:Program} {ops:Array Oper} {md:Region.Mode}
def tailB (md:Region.Mode) (ops:Array Oper) (n:Nat):Bool :=
 decide (n<ops.size)&&Region.sinkB md ops n&&Region.chainB md ops n&&Region.seqB md ops (ops.size-n) n ((Array.replicate n true)++Array.replicate (ops.size-n) false)
def left (n:Nat) (listed:Array Bool):Nat:=((List.range n).filter fun i => !listed.getD i true).length
theorem filter_len_lt {p q:Nat→Bool} {i:Nat}:∀ l:List Nat,i∈l→(∀ j,q j=true→p j=true)→p i=true→q i=false→(l.filter q).length<(l.filter p).length
 | [],h,_,_,_=>by cases h
 | x::l,h,hpq,hp,hq=>by
  have hle:(l.filter q).length≤(l.filter p).length:=by
   clear h
   induction l with
   | nil=>simp
   | cons y l ih =>
    simp only [List.filter_cons]
    by_cases h1:q y=true
    ·rw [if_pos h1,if_pos (hpq y h1)];simpa using ih
    rw [if_neg h1]
    split
    ·simp only [List.length_cons];omega
    exact ih
  by_cases e:x=i
  ·subst e
   simp only [List.filter_cons,hp,hq,if_true]
   simp
   omega
  have hi:i∈l:=by
   rcases List.mem_cons.1 h with h | h
   ·exact absurd h.symm e
   exact h
  have ih:=filter_len_lt l hi hpq hp hq
  simp only [List.filter_cons]
  by_cases h1:q x=true
  ·rw [if_pos h1,if_pos (hpq x h1)];simpa using ih
  rw [if_neg h1]
  split
  ·simp only [List.length_cons];omega
  exact ih
theorem left_set {n i:Nat} {listed:Array Bool} (hi:i<n) (hl:listed.getD i true=false) (hs:i<listed.size):left n (listed.setIfInBounds i true)<left n listed:=by
 unfold left
 refine filter_len_lt (i:=i) _ (List.mem_range.2 hi) (fun j h=>?_) (by simpa using hl) ?_
 ·by_cases e:i=j
  ·subst e
   simp [hs] at h
  rwa [getD_set_ne true e] at h
 simp [hs]
theorem left_zero {n:Nat} {listed:Array Bool} (h:left n listed=0) (i:Nat) (hi:i<n):listed.getD i true=true:=by
 unfold left at h
 have h1:=List.eq_nil_of_length_eq_zero h
 cases hb:listed.getD i true with
 | true=>rfl
 | false =>
  have:i∈(List.range n).filter fun i => !listed.getD i true:=List.mem_filter.2 ⟨List.mem_range.2 hi,by simp [hb]⟩
  rw [h1] at this
  cases this
theorem head_all {n:Nat} {listed:Array Bool} (inv:HeadInv md ops n listed) (hn:n≤ops.size) (h:∀ i,i<n→listed.getD i true=true) :
  listed=(Array.replicate n true)++Array.replicate (ops.size-n) false:=by
 have hs:=inv.size
 apply Array.ext
 ·simp [hs];omega
 intro i h1 h2
 rcases Nat.lt_or_ge i n with hi | hi
 ·have:=h i hi
  rw [Array.getElem_append_left (by simpa using hi)]
  simp [h1] at this
  simp [this]
 have:=inv.tail i hi (by omega)
 rw [Array.getElem_append_right (by simpa using hi)]
 simp [h1] at this
 simp [this]
theorem more_fuel1 {Q:Exit→Act→World→Prop}:∀ (f:Nat) (listed:Array Bool) (a:Act) (w:World),wpAny P md ops Q f listed a w→wpAny P md ops Q (f+1) listed a w
 | 0,listed,a,w,h=>⟨fun _=>h.2,fun i hi=>by rw [h.1] at hi;cases hi⟩
 | f+1,listed,a,w,h=>⟨h.1,fun i hi=>wpOp_mono (fun a' w' h'=>more_fuel1 f _ a' w' h') (h.2 i hi)⟩
theorem more_fuel {Q:Exit→Act→World→Prop} {f g:Nat} {listed:Array Bool} {a:Act} {w:World} (h:wpAny P md ops Q f listed a w) (hfg:f≤g):wpAny P md ops Q g listed a w:=by
 obtain ⟨k,rfl⟩:∃ k,g=f+k:=⟨g-f,by omega⟩
 clear hfg
 induction k with
 | zero=>exact h
 | succ k ih=>exact more_fuel1 _ _ _ _ ih
theorem wpAny_inv {Q:Exit→Act→World→Prop} {n:Nat} (hB:tailB md ops n=true) (J:Array Bool→Act→World→Prop)
  (step:∀ i,i<n→∀ listed a w,HeadInv md ops n listed→i∈Region.ready md ops listed→J listed a w→wpOp P ops Q i (fun a' w'=>J (listed.setIfInBounds i true) a' w') a w)
  (hdag:∀ i,i<n→∀ o,ops[i]?=some o→∀ e∈o.after,Region.binds md e=true→e.on<i)
  (done:∀ a w,J ((Array.replicate n true)++Array.replicate (ops.size-n) false) a w→wpList P ops Q (ops.toList.drop n) a w) :
  ∀ (m:Nat) (listed:Array Bool) (a:Act) (w:World),left n listed=m→HeadInv md ops n listed→J listed a w→wpAny P md ops Q (m+(ops.size-n)) listed a w:=by
 simp only [tailB,Bool.and_eq_true,decide_eq_true_eq] at hB
 obtain ⟨⟨⟨hn,hs⟩,hc⟩,hq⟩:=hB
 intro m
 induction m using Nat.strongRecOn with
 | _ m ih =>
  intro listed a w hm inv hJ
  by_cases h0:left n listed=0
  ·have hall:=head_all inv (by omega) (left_zero h0)
   subst hall
   have hm0:m=0:=by omega
   subst hm0
   have h1:=done a w hJ
   have hl:(ops.toList.drop n).length=ops.size-n:=by simp
   have h2:=wpAny_of_seq (md:=md) (Q':=Q) (ops.toList.drop n) n ((Array.replicate n true)++Array.replicate (ops.size-n) false) a w
    (fun j=>by rw [List.getElem?_drop];simp) (by rw [hl];exact hq) h1
   rw [hl] at h2
   rw [Nat.zero_add]
   exact h2
  have hex:∃ i,i<n∧listed.getD i true=false:=by
   rcases Classical.em (∃ i,i<n∧listed.getD i true=false) with h | h
   ·exact h
   exfalso
   apply h0
   unfold left
   have:((List.range n).filter fun i => !listed.getD i true)=[]:=by
    rw [List.filter_eq_nil_iff]
    intro i hi hh
    exact h ⟨i,List.mem_range.1 hi,by simpa using hh⟩
   rw [this];rfl
  obtain ⟨i0,hi0,hu0⟩:=hex
  obtain ⟨m',rfl⟩:∃ m',m=m'+1:=⟨m-1,by omega⟩
  have hfuel:m'+1+(ops.size-n)=(m'+(ops.size-n))+1:=by omega
  rw [hfuel]
  have hready:∀ k i,i<k→i<n→listed.getD i true=false→∃ i',i'∈Region.ready md ops listed:=by
   intro k
   induction k with
   | zero=>intro i h;omega
   | succ k ihk =>
    intro i hik hin hu
    have hio:i<ops.size:=by omega
    by_cases hd:∀ e∈(ops[i]'hio).after,Region.binds md e=true→listed.getD e.on false=true
    ·exact ⟨i,mem_ready.2 ⟨hu,ops[i]'hio,Array.getElem?_eq_getElem hio,hd⟩⟩
    have hd':∃ e∈(ops[i]'hio).after,Region.binds md e=true∧listed.getD e.on false≠true:=by
     refine Classical.byContradiction fun hh=>hd fun e he hb=>?_
     refine Classical.byContradiction fun hne=>hh ⟨e,he,hb,hne⟩
    obtain ⟨e,he,hb,hne⟩:=hd'
    have hlt:=hdag i hin _ (Array.getElem?_eq_getElem hio) e he hb
    refine ihk e.on (by omega) (by omega) ?_
    have hsz:=inv.size
    exact getD_in (by omega) (by simpa using hne)
  obtain ⟨ir,hir⟩:=hready (i0+1) i0 (by omega) hi0 hu0
  refine ⟨fun h=>(by rw [h] at hir;cases hir),fun i hi=>?_⟩
  have hin:i<n:=by
   rcases Nat.lt_or_ge i n with h | h
   ·exact h
   exact absurd hi (tail_waits hs hc hn inv _ i0 rfl hi0 hu0 i h)
  have hu:=(mem_ready.1 hi).1
  have hsz:=inv.size
  have hlt:i<listed.size:=by omega
  have hdec:=left_set hin hu hlt
  refine wpOp_mono (fun a' w' hJ'=>?_) (step i hin listed a w inv hi hJ)
  have hle:=ih (left n (listed.setIfInBounds i true)) (by omega) (listed.setIfInBounds i true) a' w' rfl (inv.set hi hin) hJ'
  exact more_fuel hle (by omega)
def dagB (md:Region.Mode) (ops:Array Oper) (n:Nat):Bool :=
 (List.range n).all fun i=>((ops[i]?).map fun o=>o.after.all fun e => !Region.binds md e||decide (e.on<i)).getD true
theorem dagB_spec {n:Nat} (h:dagB md ops n=true) (i:Nat) (hi:i<n) (o:Oper) (ho:ops[i]?=some o) (e:Edge) (he:e∈o.after) (hb:Region.binds md e=true):e.on<i:=by
 have h1:=List.all_eq_true.1 h i (List.mem_range.2 hi)
 rw [ho] at h1
 simp only [Option.map_some,Option.getD_some] at h1
 have h2:=Array.all_eq_true'.1 h1 e he
 simp only [Bool.or_eq_true,Bool.not_eq_true',decide_eq_true_eq] at h2
 rcases h2 with h2 | h2
 ·rw [hb] at h2;cases h2
 exact h2
def upd (f:Nat→Value) (d:Nat) (v:Value):Nat→Value:=fun k=>if k=d then v else f k
def fillL (lo hi:Nat) (f:Nat→Value):Nat→List Value→List Value
 | _,[]=>[]
 | k,b::r=>(if Nat.ble lo k&&Nat.blt k hi then f k else b)::fillL lo hi f (k+1) r
def fill (base:List Value) (lo hi:Nat) (f:Nat→Value):Array Value:=(fillL lo hi f 0 base).toArray
theorem fillL_get (lo hi:Nat) (f:Nat→Value):∀ (base:List Value) (k j:Nat),(fillL lo hi f k base)[j]?=(base[j]?).map fun b=>if Nat.ble lo (k+j)&&Nat.blt (k+j) hi then f (k+j) else b
 | [],k,j=>by simp [fillL]
 | b::r,k,0=>by simp [fillL]
 | b::r,k,j+1=>by
  simp only [fillL,List.getElem?_cons_succ,fillL_get lo hi f r (k+1) j]
  have e:k+1+j=k+(j+1):=by omega
  rw [e]
theorem fill_set {base:List Value} {lo hi:Nat} {f:Nat→Value} {d:Nat} (v:Value) (h1:lo≤d) (h2:d<hi):(fill base lo hi f).setIfInBounds d v=fill base lo hi (upd f d v):=by
 apply Array.ext_getElem?
 intro j
 simp only [fill,List.setIfInBounds_toArray,List.getElem?_toArray,List.getElem?_set,fillL_get,Nat.zero_add]
 by_cases e:d=j
 ·subst e
  have hb:(Nat.ble lo d&&Nat.blt d hi)=true:=by
   simp only [Bool.and_eq_true,Nat.ble_eq,Nat.blt_eq];omega
  rcases Nat.lt_or_ge d base.length with hl | hl
  ·have hlen:d<(fillL lo hi f 0 base).length:=by
    rcases Nat.lt_or_ge d (fillL lo hi f 0 base).length with h | h
    ·exact h
    exfalso
    have h3:=fillL_get lo hi f base 0 d
    rw [List.getElem?_eq_none h,List.getElem?_eq_getElem hl] at h3
    cases h3
   simp [hl,hlen,hb,upd]
  have hlen:¬ d<(fillL lo hi f 0 base).length:=by
   intro h
   have h3:=fillL_get lo hi f base 0 d
   rw [List.getElem?_eq_getElem h,List.getElem?_eq_none hl] at h3
   cases h3
  simp [hlen,List.getElem?_eq_none hl]
 rw [if_neg e]
 congr 1
 funext b
 split
 ·simp [upd,Ne.symm e]
 rfl
def Deps (l:List Oper) (Ψ:Nat→Value→World→Prop) (f:Nat→Value) (w:World):List Edge→Prop
 | []=>True
 | e::r=>(match (l[e.on]?).bind (·.dst) with | some d=>Region.binds .any e=true→Ψ e.on (f d) w | none=>True)∧Deps l Ψ f w r
theorem deps_of {l:List Oper} {Ψ:Nat→Value→World→Prop} {f:Nat→Value} {w:World}:∀ es:List Edge,
  (∀ e∈es,Region.binds .any e=true→∀ o d,l[e.on]?=some o→o.dst=some d→Ψ e.on (f d) w)→Deps l Ψ f w es
 | [],_=>trivial
 | e::r,h=>by
  refine ⟨?_,deps_of r fun e' he'=>h e' (List.mem_cons_of_mem _ he')⟩
  cases ho:l[e.on]? with
  | none=>simp
  | some o =>
   cases hd:o.dst with
   | none=>simp [hd]
   | some d =>
    simp only [Option.bind_some,hd]
    exact fun hb=>h e (List.mem_cons_self ..) hb o d ho hd
def StepOk (P:Program) (l:List Oper) (F:(Nat→Value)→Array Value) (D:List Deferred) (w0:World) (Ψ:Nat→Value→World→Prop) (i:Nat) (o:Oper):Prop :=
 ∀ (f:Nat→Value) (w:World),Below w0.heap.size w0 w→Deps l Ψ f w o.after.toList→∀ Q:Exit→Act→World→Prop,
  (∀ v w',Ψ i v w'→Below w.heap.size w w'→Q .normal ((Act.mk (F f) D).put o.dst v) w')→wpList P l.toArray Q [o] ⟨F f,D⟩ w
def StepsOk (P:Program) (l:List Oper) (F:(Nat→Value)→Array Value) (D:List Deferred) (w0:World) (Ψ:Nat→Value→World→Prop):Nat→List Oper→Prop
 | _,[]=>True
 | i,o::r=>(StepOk P l F D w0 Ψ i o)∧StepsOk P l F D w0 Ψ (i+1) r
theorem stepsOk_at {l:List Oper} {F:(Nat→Value)→Array Value} {D:List Deferred} {w0:World} {Ψ:Nat→Value→World→Prop}:∀ (r:List Oper) (k j:Nat) (o:Oper),
  StepsOk P l F D w0 Ψ k r→r[j]?=some o→StepOk P l F D w0 Ψ (k+j) o
 | [],_,_,_,_,h=>by simp at h
 | x::r,k,0,o,hs,h=>by
  simp at h
  subst h
  exact hs.1
 | x::r,k,j+1,o,hs,h=>by
  have:=stepsOk_at r (k+1) j o hs.2 (by simpa using h)
  rw [show k+(j+1)=k+1+j by omega]
  exact this
def dstB (l:List Oper) (n lo hi:Nat):Bool:=(l.take n).all fun o=>match o.dst with | some d=>Nat.ble lo d&&Nat.blt d hi | none=>false
def apartB (l:List Oper) (n:Nat):Bool:=(List.range n).all fun i=>(List.range n).all fun j=>decide (i=j)||decide ((l[i]?).bind (·.dst)≠(l[j]?).bind (·.dst))
theorem Oper.wp_to {o:Oper} {a:Act} {w:World} {K K':Act→World→Prop} {Q Q':Exit→Act→World→Prop} (h:∀ a w,K a w→K' a w) (hp:∀ c a w,Q (.panic c) a w→Q' (.panic c) a w) (ho:LetsOut Q→LetsOut Q')
  (hh:o.wp P a w K Q):o.wp P a w K' Q':=by
 unfold Oper.wp at *
 generalize (execOp a.eval o).run P w=r at *
 cases r with
 | ok n w' =>
  cases n <;> simp only [Oper.upon] at hh ⊢ <;>
   first
    | exact h _ _ hh
    | exact Calls.mono hh (fun e w'' he=>by cases e <;> first | exact h _ _ he | exact hp _ _ _ he | exact ho he)
    | exact Rows.mono hh (fun _ _ he=>h _ _ he)
 | halt x w'=>cases x <;> simp only [Oper.upon] at hh ⊢ <;> first | exact hp _ _ _ hh | exact hh
theorem fillL_id (lo hi:Nat) (f:Nat→Value):∀ (base:List Value) (k:Nat),(∀ j b,base[j]?=some b→f (k+j)=b)→fillL lo hi f k base=base
 | [],_,_=>rfl
 | b::r,k,h=>by
  simp only [fillL]
  rw [fillL_id lo hi f r (k+1) fun j b' hb=>by rw [show k+1+j=k+(j+1) by omega];exact h (j+1) b' (by simpa using hb)]
  congr 1
  split
  ·exact h 0 b (by simp)
  rfl
theorem wp_region_grow {id:Nat} {Q:Exit→Act→World→Prop} {w:World} {l:List Oper} (n lo hi:Nat) (base:List Value) (D:List Deferred) (Ψ:Nat→Value→World→Prop) (F:(Nat→Value)→Array Value) (hF:∀ f,fill base lo hi f=F f)
  (hm:P.follows .mixedOrders=true) (hB:tailB .any l.toArray n=true) (hdag:dagB .any l.toArray n=true) (hdst:dstB l n lo hi=true) (hap:apartB l n=true)
  (stab:∀ j v w w',Ψ j v w→Below w.heap.size w w'→Ψ j v w')
  (steps:StepsOk P l F D w Ψ 0 (l.take n))
  (done:∀ f w',Below w.heap.size w w'→(∀ j o d,j<n→l[j]?=some o→o.dst=some d→Ψ j (f d) w')→wpList P l.toArray Q (l.drop n) ⟨F f,D⟩ w') :
  (Code.region id l.toArray true).wp P Q ⟨base.toArray,D⟩ w:=by
 refine wp_region_any hm ?_
 have hn:n<l.toArray.size:=by
  simp only [tailB,Bool.and_eq_true,decide_eq_true_eq] at hB
  exact hB.1.1.1
 have hnl:n<l.length:=by simpa using hn
 have hds:∀ j o,j<n→l[j]?=some o→∃ d,o.dst=some d∧lo≤d∧d<hi:=by
  intro j o hj ho
  have h1:=List.all_eq_true.1 hdst o (List.mem_iff_getElem?.2 ⟨j,by rw [List.getElem?_take_of_lt hj];exact ho⟩)
  cases hd:o.dst with
  | none=>rw [hd] at h1;cases h1
  | some d =>
   rw [hd] at h1
   simp only [Bool.and_eq_true,Nat.ble_eq,Nat.blt_eq] at h1
   exact ⟨d,rfl,h1.1,h1.2⟩
 have hne:∀ i j oi oj d,i<n→j<n→i≠j→l[i]?=some oi→l[j]?=some oj→oi.dst=some d→oj.dst≠some d:=by
  intro i j oi oj d hi' hj hij hoi hoj hd hd'
  have h1:=List.all_eq_true.1 (List.all_eq_true.1 hap i (List.mem_range.2 hi')) j (List.mem_range.2 hj)
  simp only [Bool.or_eq_true,decide_eq_true_eq,hoi,hoj,Option.bind_some,hd,hd'] at h1
  rcases h1 with h1 | h1
  ·exact hij h1
  exact h1 rfl
 let J:Array Bool→Act→World→Prop:=fun listed a w'=>∃ f,a=⟨F f,D⟩∧Below w.heap.size w w'∧∀ j o d,j<n→l[j]?=some o→o.dst=some d→listed.getD j false=true→Ψ j (f d) w'
 have key:=wpAny_inv (P:=P) (md:=.any) (Q:=Q) hB J (fun i hin listed a w1 inv hi' hJ=>by
   obtain ⟨f,rfl,hb,hΨ⟩:=hJ
   obtain ⟨_,o,ho,hall⟩:=mem_ready.1 hi'
   have ho':l[i]?=some o:=by simpa using ho
   obtain ⟨d,hd,hlo,hhi⟩:=hds i o hin ho'
   have hst:=stepsOk_at (l.take n) 0 i o steps (by rw [List.getElem?_take_of_lt hin];exact ho')
   rw [Nat.zero_add] at hst
   have h1:=hst f w1 hb (deps_of _ fun e he hbd oe de hoe hde=>by
     have hlt:=dagB_spec hdag i hin o ho e (by simpa using he) hbd
     exact hΨ e.on oe de (by omega) hoe hde (hall e (by simpa using he) hbd))
    (fun x a' w'=>match x with | .normal=>J (listed.setIfInBounds i true) a' w' | y=>Q y a' w')
    (fun v w' hv hw'=>by
     refine ⟨upd f d v,?_,hb.trans (hw'.mono hb.size),fun j oj dj hj hoj hdj hl=>?_⟩
     ·simp only [Act.put,hd]
      rw [← hF,← hF,fill_set v hlo hhi]
     by_cases e:i=j
     ·subst e
      have:oj=o:=Option.some.inj (hoj.symm.trans ho')
      subst this
      have:dj=d:=Option.some.inj (hdj.symm.trans hd)
      subst this
      simpa [upd] using hv
     have hdne:dj≠d:=fun h=>hne i j o oj d hin hj e ho' hoj hd (by rw [hdj,h])
     have:upd f d v dj=f dj:=by simp [upd,hdne]
     rw [this]
     rw [getD_set_ne false e] at hl
     exact stab j _ _ _ (hΨ j oj dj hj hoj hdj hl) hw')
   unfold wpOp
   simp only [ho]
   unfold wpList at h1
   split
   ·rename_i hw
    rw [if_pos hw] at h1
    rcases h1 with h1 | ⟨h1,h2⟩
    ·exact .inl (Oper.wp_to (fun a w h=>h) (fun c a w h=>h) (fun h=>h) h1)
    exact .inr ⟨h1,h2⟩
   rename_i hw
   rw [if_neg hw] at h1
   exact h1)
  (fun i hin o ho e he hb=>dagB_spec hdag i hin o ho e he hb)
  (fun a w' hJ=>by
   obtain ⟨f,rfl,hb,hΨ⟩:=hJ
   refine done f w' hb fun j o d hj ho hd=>hΨ j o d hj ho hd ?_
   have e:(Array.replicate n true++Array.replicate (l.toArray.size-n) false)[j]?=some true:=by
    rw [Array.getElem?_append_left (by simpa using hj)]
    simp [hj]
   simp only [Array.getD_eq_getD_getElem?,e,Option.getD_some])
  (left n (Array.replicate l.toArray.size false)) (Array.replicate l.toArray.size false) ⟨base.toArray,D⟩ { w with drawn:=w.drawn+1 } rfl
  ⟨by simp,fun j oj _ hl=>(by rw [getD_replicate_false] at hl;cases hl),fun t _ ht=>getD_in (by simpa using ht) (getD_replicate_false _ _)⟩
  ⟨fun k=>base.getD k undef,by
    have:=fillL_id lo hi (fun k=>base.getD k undef) base 0 (fun j b hb=>by simp [hb])
    rw [← hF];simp only [fill,this],(Below.refl _ _).drew,fun j o d _ _ _ hl=>by rw [getD_replicate_false] at hl;cases hl⟩
 refine more_fuel key ?_
 have:left n (Array.replicate l.toArray.size false)≤n:=by
  unfold left
  exact Nat.le_trans (List.length_filter_le _ _) (by simp)
 omega
end
end Go.Proofs.YtnopjabcdloepaaGreatDoor
