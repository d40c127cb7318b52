import Derived.Test.YtnopjabcdloepaaGreatDoorYe
import Derived.Test.YtnopjabcdloepaaGreatDoorYd
import Derived.Test.YtnopjabcdloepaaGreatDoorRows
import Derived.Test.YtnopjabcdloepaaGreatDoorFw4
import Derived.WalkKit
import Derived.WalkSpells
import Derived.WalkLawsBesides
import Derived.RegionTactic
import Derived.ChangeAlike
import Derived.BigRegion
import Derived.Handy
import Derived.Lib.Hide
import Derived.LoopTactic
import Derived.Deep.QuietTactic
import Derived.BigQuiet
import Derived.IntWalk
import Derived.Laws.Rows
import Derived.Deep.LoopGhost
import Derived.StillTailTactics
import Derived.Laws.AppendOwn
import Derived.Deep.Cut
namespace Fe
open Go.Proofs.YtnopjabcdloepaaGreatDoor
theorem pow_pos2 (t:Nat):(0:Int)<2 ^ t:=Int.pow_pos (by decide)
theorem bit_of_sum (X c:Int) (s t:Nat) (h:t<s):(X+c*2 ^ s) / 2 ^ t % 2=X / 2 ^ t % 2:=by
 have e:(2:Int) ^ s=2 ^ (s-t-1)*2*2 ^ t:=by
  rw [← Int.pow_succ,← Int.pow_add];congr 1;omega
 rw [e,← Int.mul_assoc,Int.add_mul_ediv_right _ _ (Int.ne_of_gt (pow_pos2 t)),← Int.mul_assoc]
 omega
theorem pb_bit (y:E):∀ k m,m<k→pb y k (m / 8) / 2 ^ (m % 8) % 2=bit y m
 | 0,m,h=>absurd h (by omega)
 | k+1,m,h=>by
  simp only [pb]
  by_cases e:m=k
  ·subst e
   rw [if_pos rfl]
   have hl:=pb_lt y m (m / 8)
   rw [show min 8 (m-8*(m / 8))=m % 8 by omega] at hl
   have hb:=bit_01 y m
   rw [Int.add_mul_ediv_right _ _ (Int.ne_of_gt (pow_pos2 _)),Int.ediv_eq_zero_of_lt hl.1 hl.2]
   omega
  have ih:=pb_bit y k m (by omega)
  split
  ·rename_i h2
   rw [bit_of_sum _ _ _ _ (by omega),ih]
  exact ih
theorem D.r {e:E} (h:D e):R e:=by simp only [D,R] at *;omega
theorem pb_range (y:E) (j:Nat):0≤pb y 255 j∧pb y 255 j<256:=by
 have h:=pb_lt y 255 j
 have h2:(2:Int) ^ (min 8 (255-8*j))≤2 ^ 8:=by
  have:=Nat.pow_le_pow_right (n:=2) (by decide) (show min 8 (255-8*j)≤8 by omega)
  exact_mod_cast this
 omega
end Fe
namespace Dg
open Fe
def sm (f:Nat→Int):Nat→Int
 | 0=>0
 | k+1=>sm f k+f k*65536 ^ k
def up (f:Nat→Int) (i:Nat) (v:Int):Nat→Int:=fun j=>if j=i then v else f j
def dg (n:Nat) (i:Nat):Int:=((n / 65536 ^ i % 65536:Nat):Int)
def Di (f:Nat→Int) (k:Nat):Prop:=∀ j,j<k→0≤f j∧f j<65536
theorem sm_congr {f g:Nat→Int}:∀ k,(∀ j,j<k→f j=g j)→sm f k=sm g k
 | 0,_=>rfl
 | k+1,h=>by
  simp only [sm]
  rw [sm_congr k fun j hj=>h j (by omega),h k (by omega)]
theorem Di.mono {f:Nat→Int} {k n:Nat} (h:Di f n) (hk:k≤n):Di f k:=fun j hj=>h j (by omega)
theorem sm_dg (n:Nat):∀ k,sm (dg n) k=((n % 65536 ^ k:Nat):Int)
 | 0=>by simp [sm,Nat.mod_one]
 | k+1=>by
  simp only [sm]
  rw [sm_dg n k,Nat.mod_pow_succ]
  unfold dg
  rw [Int.natCast_add,Int.natCast_mul,Int.natCast_pow,Int.mul_comm]
  rfl
def M:Int:=115792089237316195423570985008687907853269984665640564039457584007913129639936
theorem M_nat:65536 ^ 16=115792089237316195423570985008687907853269984665640564039457584007913129639936:=by decide
theorem sm16 {n:Nat} (h:n<2 ^ 256):sm (dg n) 16=(n:Int):=by
 rw [sm_dg,Nat.mod_eq_of_lt (by rw [M_nat];simpa using h)]
def cs (t:Nat→Int) (i:Nat):Nat→Int:=if i<15 then up (up t i (t i % 65536)) (i+1) (t (i+1)+t i / 65536) else up (up t i (t i % 65536)) 0 (t 0+38*(t i / 65536))
def ps (t:Nat→Int):Nat→(Nat→Int)
 | 0=>t
 | k+1=>cs (ps t k) k
end Dg
namespace Go.Proofs.YtnopjabcdloepaaGreatDoor
open Go.RowKit
def av (f:Nat→Int):Array Value:=#[.int .u64 (f 0),.int .u64 (f 1),.int .u64 (f 2),.int .u64 (f 3),.int .u64 (f 4),.int .u64 (f 5),.int .u64 (f 6),.int .u64 (f 7),.int .u64 (f 8),.int .u64 (f 9),.int .u64 (f 10),.int .u64 (f 11),.int .u64 (f 12),.int .u64 (f 13),.int .u64 (f 14),.int .u64 (f 15)]
theorem lt16 {i:Nat} (h:i<16):i=0∨i=1∨i=2∨i=3∨i=4∨i=5∨i=6∨i=7∨i=8∨i=9∨i=10∨i=11∨i=12∨i=13∨i=14∨i=15:=by omega
theorem av_congr {f g:Nat→Int} (h:∀ j,j<16→f j=g j):av f=av g:=by
 unfold av
 rw [h 0 (by decide),h 1 (by decide),h 2 (by decide),h 3 (by decide),h 4 (by decide),h 5 (by decide),h 6 (by decide),h 7 (by decide),h 8 (by decide),h 9 (by decide),h 10 (by decide),h 11 (by decide),h 12 (by decide),h 13 (by decide),h 14 (by decide),h 15 (by decide)]
def PostN (f:Nat→Int) (w:World) (e:Ending) (w':World):Prop:=e=.returned (.agg (av f))∧Below w.heap.size w w'
theorem PostN.congr {f g:Nat→Int} {w w':World} {e:Ending} (h:∀ j,j<16→f j=g j) (hp:PostN f w e w'):PostN g w e w':=by
 obtain ⟨rfl,hb⟩:=hp
 exact ⟨by rw [av_congr h],hb⟩
def pd (i:Nat):Int:=if i=0 then 65517 else if i<15 then 65535 else 32767
theorem pd_eq:∀ j,j<16→pd j=Dg.dg Fe.P j:=fun j hj=>by
 rcases lt16 hj with rfl | rfl | rfl | rfl | rfl | rfl | rfl | rfl | rfl | rfl | rfl | rfl | rfl | rfl | rfl | rfl <;> decide +kernel
def lessB (f g:Nat→Int):Bool:=decide (Dg.sm f 16<Dg.sm g 16)
end Go.Proofs.YtnopjabcdloepaaGreatDoor
namespace Dg
end Dg
namespace Go.Proofs.YtnopjabcdloepaaGreatDoor
open Go.RowKit
section
variable {ops:Array Oper} {rest:List Oper} {o:Oper} {a:Act} {w:World} {Q:Exit→Act→World→Prop}
end
theorem pd_sm:Dg.sm pd 16=Fe.p:=by
 rw [Dg.sm_congr 16 pd_eq,Dg.sm16 (by unfold Fe.P;decide)]
 rfl
end Go.Proofs.YtnopjabcdloepaaGreatDoor
namespace Dg
open Fe (P)
def pv (a e c:Nat):Nat:=a ^ (e / 2 ^ c) % P
end Dg
namespace Go.Proofs.YtnopjabcdloepaaGreatDoor
open Go.RowKit
end Go.Proofs.YtnopjabcdloepaaGreatDoor
namespace Dg
open Fe (P)
def hT (n m:Nat):Nat→Int:=fun j=>if j<m then dg (n / 2) j else dg n j
end Dg
namespace Go.Proofs.YtnopjabcdloepaaGreatDoor
open Go.RowKit
end Go.Proofs.YtnopjabcdloepaaGreatDoor
namespace Dg
def rb (n j:Nat):Int:=((n / 256 ^ j % 256:Nat):Int)
end Dg
namespace Go.Proofs.YtnopjabcdloepaaGreatDoor
open Go.RowKit
end Go.Proofs.YtnopjabcdloepaaGreatDoor
namespace Fe
open Go.Proofs.YtnopjabcdloepaaGreatDoor
theorem P_one:1<P:=by unfold P;decide
theorem prP:Nt.Pr P:=Nt.prp
theorem not_dvd {n:Nat} (h:n<P) (h0:n≠0):¬ P ∣ n:=fun hd=>by
 have:=Nat.le_of_dvd (by omega) hd
 omega
end Fe
namespace Dg
open Fe
theorem dig_bit (n b q r:Nat) (hr:r<b):n / 2 ^ (b*q) % 2 ^ b / 2 ^ r % 2=n / 2 ^ (b*q+r) % 2:=by
 rw [Nat.pow_add,← Nat.div_div_eq_div_mul]
 generalize n / 2 ^ (b*q)=y
 have hb:2 ^ b=2 ^ r*(2 ^ (b-1-r)*2):=by
  rw [← Nat.pow_succ,← Nat.pow_add,show r+(b-1-r+1)=b by omega]
 rw [hb,Nat.mod_mul_right_div_self,Nat.mul_comm (2 ^ (b-1-r)) 2,Nat.mod_mul_right_mod]
theorem bits_ext {x y:Int} (hx:0≤x∧x<256) (hy:0≤y∧y<256) (h:∀ r,r<8→x / 2 ^ r % 2=y / 2 ^ r % 2):x=y:=by
 have h0:=h 0 (by decide);have h1:=h 1 (by decide);have h2:=h 2 (by decide);have h3:=h 3 (by decide)
 have h4:=h 4 (by decide);have h5:=h 5 (by decide);have h6:=h 6 (by decide);have h7:=h 7 (by decide)
 simp only [Int.reducePow] at *
 omega
theorem limb_n {y:E} {n:Nat} (hd:D y) (hv:val y=n):∀ i,i<5→limb y i=((n / 2 ^ (51*i) % 2 ^ 51:Nat):Int):=by
 intro i hi
 simp only [D,val] at hd hv
 have:i=0∨i=1∨i=2∨i=3∨i=4:=by omega
 rcases this with rfl | rfl | rfl | rfl | rfl <;> simp only [limb,Nat.reduceMul,Nat.reducePow] <;> omega
theorem bit_n {y:E} {n:Nat} (hd:D y) (hv:val y=n) (m:Nat) (hm:m<255):bit y m=((n / 2 ^ m % 2:Nat):Int):=by
 unfold bit
 rw [limb_n hd hv _ (by omega)]
 have h:=dig_bit n 51 (m / 51) (m % 51) (by omega)
 rw [show 51*(m / 51)+m % 51=m by omega] at h
 rw [← h]
 simp only [Int.natCast_emod,Int.natCast_ediv,Int.natCast_pow]
 rfl
theorem put_rb {e:E} (hR:R e):∀ j,j<32→pb (canon e) 255 j=rb (nv e) j:=by
 intro j hj
 have hd:=canon_d e
 have hv:=val_canon hR
 have hlt:=nv_lt e
 have h1:0≤rb (nv e) j∧rb (nv e) j<256:=by unfold rb;omega
 refine bits_ext (pb_range _ _) h1 fun r hr=>?_
 have e2:rb (nv e) j / 2 ^ r % 2=((nv e / 2 ^ (8*j+r) % 2:Nat):Int):=by
  rw [← dig_bit (nv e) 8 j r hr]
  unfold rb
  rw [show (256:Nat) ^ j=2 ^ (8*j) by rw [Nat.pow_mul]]
  simp only [Int.natCast_emod,Int.natCast_ediv,Int.natCast_pow]
  rfl
 rw [e2]
 by_cases hm:8*j+r<255
 ·have h3:=pb_bit (canon e) 255 (8*j+r) hm
  rw [show (8*j+r) / 8=j by omega,show (8*j+r) % 8=r by omega] at h3
  rw [h3,bit_n hd hv _ hm]
 have hj31:j=31:=by omega
 have hr7:r=7:=by omega
 subst hj31 hr7
 have hl:=pb_lt (canon e) 255 31
 have h4:(2:Int) ^ (min 8 (255-8*31))=128:=by rw [show min 8 (255-8*31)=7 from rfl];rfl
 rw [h4] at hl
 have h5:pb (canon e) 255 31 / 2 ^ 7=0:=Int.ediv_eq_zero_of_lt hl.1 hl.2
 have h6:nv e / 2 ^ (8*31+7)=0:=Nat.div_eq_of_lt (Nat.lt_of_lt_of_le hlt (by unfold P;decide))
 rw [h5,h6]
 rfl
end Dg
namespace Go.Proofs.YtnopjabcdloepaaGreatDoor
open Go.RowKit
section
variable {ops:Array Oper} {rest:List Oper} {o:Oper} {a:Act} {w:World} {Q:Exit→Act→World→Prop}
end
end Go.Proofs.YtnopjabcdloepaaGreatDoor
namespace Dg
def bd (b:Nat→Int) (j:Nat):Int:=b (2*j)+b (2*j+1)*256
end Dg
namespace Go.Proofs.YtnopjabcdloepaaGreatDoor
open Go.RowKit
end Go.Proofs.YtnopjabcdloepaaGreatDoor
namespace Fe
open Go.Proofs.YtnopjabcdloepaaGreatDoor
def hf:Nat:=(P-1) / 2
theorem hf_two:hf+hf=P-1:=by unfold hf P;decide
theorem KK_sq:KK 2*KK 2 % P=P-1:=by
 rw [K2F_eq]
 decide +kernel
theorem neg_mod {n:Nat} (h:n<P):n*(P-1) % P=(P-n) % P:=by
 rcases Nat.eq_zero_or_pos n with h0 | h0
 ·subst h0;simp
 have e:n*(P-1)=(P-n)+P*(n-1):=by
  obtain ⟨m,rfl⟩:∃ m,n=m+1:=⟨n-1,by omega⟩
  obtain ⟨q,hq⟩:∃ q,P=m+1+q:=⟨P-(m+1),by omega⟩
  rw [hq,show m+1+q-1=m+q by omega,show m+1+q-(m+1)=q by omega,show m+1-1=m by omega]
  grind
 rw [e,Nat.add_mul_mod_self_left]
theorem fN_lt {r:Nat} (h:r<P):fN r<P:=by
 unfold fN
 split
 ·exact Nat.mod_lt _ (by omega)
 exact h
theorem neg_sq {r:Nat} (h:r<P):(P-r) % P*((P-r) % P) % P=r*r % P:=by
 rw [← Nat.mul_mod]
 obtain ⟨q,hq⟩:∃ q,P=r+q:=⟨P-r,by omega⟩
 have e:(P-r)*(P-r)+P*(2*r)=r*r+P*P:=by
  rw [hq,show r+q-r=q by omega]
  grind
 have e2:=congrArg (· % P) e
 simp only [Nat.add_mul_mod_self_left] at e2
 exact e2
theorem fN_sq {r:Nat} (h:r<P):fN r*fN r % P=r*r % P:=by
 unfold fN
 split
 ·exact neg_sq h
 rfl
end Fe
namespace Fe
open Go.Proofs.YtnopjabcdloepaaGreatDoor
theorem P_pos:0<P:=by have:=P_one;omega
theorem r0_lt (U V:Nat):r0N U V<P:=Nat.mod_lt _ P_pos
theorem rN_lt (U V:Nat):rN U V<P:=by
 unfold rN
 split
 ·exact fN_lt (r0_lt U V)
 split
 ·exact fN_lt (Nat.mod_lt _ P_pos)
 exact P_pos
theorem neg_neg {U:Nat} (h:U<P):(P-(P-U) % P) % P=U:=by
 rcases Nat.eq_zero_or_pos U with h0 | h0
 ·subst h0;simp
 rw [Nat.mod_eq_of_lt (show P-U<P by omega),show P-(P-U)=U by omega,Nat.mod_eq_of_lt h]
theorem turn_sq {r K U V:Nat} (hK:K*K % P=P-1) (hU:U<P) (h:r*r % P*V % P=(P-U) % P):r*K % P*(r*K % P) % P*V % P=U:=by
 rw [← Nat.mul_mod,Nat.mod_mul_mod]
 have e:r*K*(r*K)*V=(r*r*V)*(K*K):=by grind
 rw [Nat.mod_mul_mod] at h
 rw [e,Nat.mul_mod,hK,h,neg_mod (Nat.mod_lt _ P_pos),neg_neg hU]
theorem rN_sq {U V:Nat} (hU:U<P) (h:bN U V=true):rN U V*rN U V % P*V % P=U:=by
 unfold bN at h
 unfold rN
 by_cases ha:isN (r0N U V) V=U
 ·rw [if_pos ha,fN_sq (r0_lt U V)]
  exact ha
 have hb:isN (r0N U V) V=(P-U) % P:=by simpa [ha] using h
 rw [if_neg ha,if_pos hb,fN_sq (Nat.mod_lt _ P_pos)]
 exact turn_sq KK_sq hU hb
end Fe
namespace Fe
open Go.Proofs.YtnopjabcdloepaaGreatDoor
def e8:Nat:=(P+3) / 2 / 2 / 2
def e4:Nat:=(P-1) / 2 / 2
theorem rN_0 {V:Nat}:bN 0 V=true∧rN 0 V=0:=by
 have h0:r0N 0 V=0:=by unfold r0N;rw [Nat.zero_mul,Nat.zero_mod,Nat.zero_mul,Nat.zero_mod]
 have h1:isN (r0N 0 V) V=0:=by rw [h0];unfold isN;rw [Nat.zero_mul,Nat.zero_mod,Nat.zero_mul,Nat.zero_mod]
 constructor
 ·unfold bN;rw [h1];simp
 unfold rN;rw [if_pos h1,h0];rfl
end Fe
namespace Fe
open Go.Proofs.YtnopjabcdloepaaGreatDoor
def sb (b:Nat→Int):Nat→Int
 | 0=>0
 | k+1=>sb b k+bbit b k*2 ^ k
def sy (b:Nat→Int):Nat→Int
 | 0=>0
 | k+1=>sy b k+b k*256 ^ k
theorem val_sb (b:Nat→Int):∀ k,k≤255→val (getE b k)=sb b k
 | 0,_=>rfl
 | k+1,hk=>by
  have ih:=val_sb b k (by omega)
  simp only [sb]
  rw [← ih]
  have hi:k / 51=0∨k / 51=1∨k / 51=2∨k / 51=3∨k / 51=4:=by omega
  have hp:(2:Int) ^ k=2 ^ (51*(k / 51))*2 ^ (k % 51):=by rw [← Int.pow_add];congr 1;omega
  rw [hp]
  simp only [val,getE,gl]
  generalize (2:Int) ^ (k % 51)=q
  generalize bbit b k=c
  rcases hi with e | e | e | e | e <;> rw [e] <;> simp <;> grind
theorem sb_sy {b:Nat→Int} (hr:∀ j,0≤b j∧b j<256):∀ j,sb b (8*j)=sy b j
 | 0=>rfl
 | j+1=>by
  have ih:=sb_sy hr j
  have hp:∀ t,(2:Int) ^ (8*j+t)=256 ^ j*2 ^ t:=fun t=>by
   rw [Int.pow_add,Int.pow_mul]
   rfl
  rw [show 8*(j+1)=8*j+1+1+1+1+1+1+1+1 by omega]
  simp only [sb,sy]
  rw [ih,hp,hp,hp,hp,hp,hp,hp,show (2:Int) ^ (8*j)=256 ^ j from by rw [Int.pow_mul];rfl]
  have h:=hr j
  simp only [bbit]
  rw [show (8*j) / 8=j by omega,show (8*j+1) / 8=j by omega,show (8*j+2) / 8=j by omega,show (8*j+3) / 8=j by omega,show (8*j+4) / 8=j by omega,show (8*j+5) / 8=j by omega,show (8*j+6) / 8=j by omega,show (8*j+7) / 8=j by omega]
  rw [show (8*j) % 8=0 by omega,show (8*j+1) % 8=1 by omega,show (8*j+2) % 8=2 by omega,show (8*j+3) % 8=3 by omega,show (8*j+4) % 8=4 by omega,show (8*j+5) % 8=5 by omega,show (8*j+6) % 8=6 by omega,show (8*j+7) % 8=7 by omega]
  have hb:b j=b j % 2+b j / 2 % 2*2+b j / 4 % 2*4+b j / 8 % 2*8+b j / 16 % 2*16+b j / 32 % 2*32+b j / 64 % 2*64+b j / 128 % 2*128:=by omega
  generalize (256:Int) ^ j=X
  generalize sy b j=Y
  simp only [Int.reducePow,Int.pow_zero,Int.ediv_one,Int.pow_one]
  generalize b j % 2=t0 at *
  generalize b j / 2 % 2=t1 at *
  generalize b j / 4 % 2=t2 at *
  generalize b j / 8 % 2=t3 at *
  generalize b j / 16 % 2=t4 at *
  generalize b j / 32 % 2=t5 at *
  generalize b j / 64 % 2=t6 at *
  generalize b j / 128 % 2=t7 at *
  rw [hb]
  grind
theorem sm_sy (b:Nat→Int):∀ k,Dg.sm (Dg.bd b) k=sy b (2*k)
 | 0=>rfl
 | k+1=>by
  have ih:=sm_sy b k
  rw [show 2*(k+1)=2*k+1+1 by omega]
  simp only [Dg.sm,sy]
  rw [ih,Dg.bd,Int.pow_succ,show (256:Int) ^ (2*k)=65536 ^ k from by rw [Int.pow_mul];rfl]
  grind
theorem sy_nn {b:Nat→Int} (hr:∀ j,0≤b j∧b j<256):∀ k,0≤sy b k
 | 0=>Int.le_refl _
 | k+1=>by
  have ih:=sy_nn hr k
  have h:=Int.mul_nonneg (hr k).1 (Int.le_of_lt (show (0:Int)<256 ^ k from Int.pow_pos (by decide)))
  simp only [sy]
  omega
theorem val_get {b:Nat→Int} (hr:∀ j,0≤b j∧b j<256):val (getE b 255)=sy b 31+b 31 % 128*256 ^ 31:=by
 have h7:∀ K,sb b (K+7)=sb b K+bbit b K*2 ^ K+bbit b (K+1)*2 ^ (K+1)+bbit b (K+2)*2 ^ (K+2)+bbit b (K+3)*2 ^ (K+3)+bbit b (K+4)*2 ^ (K+4)+bbit b (K+5)*2 ^ (K+5)+bbit b (K+6)*2 ^ (K+6):=fun K=>rfl
 have e8:sb b 248=sy b 31:=sb_sy hr 31
 rw [val_sb b 255 (Nat.le_refl _),h7 248,e8]
 have hr31:=(hr 31).1
 simp only [bbit,Nat.reduceDiv,Nat.reduceMod,Nat.reduceAdd]
 generalize sy b 31=Y
 generalize b 31=y at *
 have hb:y % 128=y % 2+y / 2 % 2*2+y / 4 % 2*4+y / 8 % 2*8+y / 16 % 2*16+y / 32 % 2*32+y / 64 % 2*64:=by omega
 rw [hb]
 simp only [Int.reducePow,Int.pow_zero,Int.ediv_one,Int.pow_one]
 omega
theorem sm_get (b:Nat→Int):Dg.sm (Dg.bd b) 16=sy b 31+b 31*256 ^ 31:=by
 rw [sm_sy b 16]
 rfl
theorem ok_same {b:Nat→Int} (hr:∀ j,0≤b j∧b j<256):getOk b=lessB (Dg.bd b) pd:=by
 have hD:=getE_d b 255
 have hv:=val_get hr
 have hs:=sm_get b
 have hn:=sy_nn hr 31
 have h31:=hr 31
 have hc:=canon_spec hD.r
 unfold lessB
 rw [pd_sm,hs]
 unfold getOk
 by_cases h:b 31<128
 ·have e1:(b 31 / 128==1)=false:=by simp;omega
  rw [show b 31 % 128=b 31 by omega] at hv
  rw [e1,← hv,Bool.not_false,Bool.true_and]
  by_cases hlt:val (getE b 255)<p
  ·rw [decide_eq_true hlt]
   refine eqE_iff.2 (D.inj hc.1 hD ?_)
   have hnn:0≤val (getE b 255):=by
    rw [hv]
    have:=Int.mul_nonneg h31.1 (show (0:Int)≤256 ^ 31 by decide)
    omega
   rw [hc.2,Int.emod_eq_of_lt hnn hlt]
  rw [decide_eq_false hlt]
  cases hq:eqE (canon (getE b 255)) (getE b 255) with
  | false=>rfl
  | true =>
   have h2:=hc.2
   rw [eqE_iff.1 hq] at h2
   exfalso
   apply hlt
   rw [h2]
   exact Int.emod_lt_of_pos _ (by decide)
 have e1:(b 31 / 128==1)=true:=by simp;omega
 rw [e1,Bool.not_true,Bool.false_and]
 refine (decide_eq_false ?_).symm
 have h3:(128:Int)*256 ^ 31≤b 31*256 ^ 31:=Int.mul_le_mul_of_nonneg_right (by omega) (by decide)
 have h4:p≤(128:Int)*256 ^ 31:=by decide
 omega
end Fe
