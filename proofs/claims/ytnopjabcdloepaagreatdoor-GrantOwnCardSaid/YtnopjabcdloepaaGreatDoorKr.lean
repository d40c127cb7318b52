import Derived.Test.YtnopjabcdloepaaGreatDoorCp
import Derived.Test.YtnopjabcdloepaaGreatDoorMo
import Derived.Test.YtnopjabcdloepaaGreatDoorYk
import Derived.Test.YtnopjabcdloepaaGreatDoorCo
namespace Sh
open Go Go.Proofs.YtnopjabcdloepaaGreatDoor Go.Proofs
def orN (a b:Nat):Nat:=a % 18446744073709551616 ||| b % 18446744073709551616
def anN (a b:Nat):Nat:=a % 18446744073709551616 &&& b % 18446744073709551616
def xoN (a b:Nat):Nat:=a % 18446744073709551616 ^^^ b % 18446744073709551616
theorem wrap_n (n:Nat):IntKind.u64.wrap (n:Int)=((n % 18446744073709551616:Nat):Int):=by
 simp [IntKind.wrap,IntKind.bits,IntKind.signed]
theorem or_n (a b:Nat):bits .or .u64 (a:Int) (b:Int)=((orN a b:Nat):Int):=by
 have h:orN a b<2 ^ 64:=Nat.or_lt_two_pow (Nat.mod_lt _ (by decide)) (Nat.mod_lt _ (by decide))
 have e:bits .or .u64 (a:Int) (b:Int)=IntKind.u64.wrap ((orN a b:Nat):Int):=by
  simp only [bits,BitVec.ofInt_natCast,BitVec.toNat_or,BitVec.toNat_ofNat];rfl
 rw [e,wrap_n,Nat.mod_eq_of_lt h]
theorem an_n (a b:Nat):bits .and .u64 (a:Int) (b:Int)=((anN a b:Nat):Int):=by
 have h:anN a b<2 ^ 64:=Nat.and_lt_two_pow _ (Nat.mod_lt _ (by decide))
 have e:bits .and .u64 (a:Int) (b:Int)=IntKind.u64.wrap ((anN a b:Nat):Int):=by
  simp only [bits,BitVec.ofInt_natCast,BitVec.toNat_and,BitVec.toNat_ofNat];rfl
 rw [e,wrap_n,Nat.mod_eq_of_lt h]
theorem xo_n (a b:Nat):bits .xor .u64 (a:Int) (b:Int)=((xoN a b:Nat):Int):=by
 have h:xoN a b<2 ^ 64:=Nat.xor_lt_two_pow (Nat.mod_lt _ (by decide)) (Nat.mod_lt _ (by decide))
 have e:bits .xor .u64 (a:Int) (b:Int)=IntKind.u64.wrap ((xoN a b:Nat):Int):=by
  simp only [bits,BitVec.ofInt_natCast,BitVec.toNat_xor,BitVec.toNat_ofNat];rfl
 rw [e,wrap_n,Nat.mod_eq_of_lt h]
theorem div_n (x k:Nat):(x:Int) / 2 ^ k=((x / 2 ^ k:Nat):Int):=by simp
theorem mul_n (x k:Nat):(x:Int)*2 ^ k=((x*2 ^ k:Nat):Int):=by simp
def rotN (x a:Nat):Nat:=orN (x*2 ^ (64-a) % 18446744073709551616) (x / 2 ^ (64-(64-a)))
theorem rot_n (x a:Nat):rotI (x:Int) a=((rotN x a:Nat):Int):=by
 unfold rotI rotN
 rw [mul_n,div_n,wrap_n,or_n]
def mixN (x a b c:Nat):Nat:=xoN (xoN (rotN x a) (rotN x b)) (rotN x c)
theorem mix_n (x a b c:Nat):mixI (x:Int) a b c=((mixN x a b c:Nat):Int):=by
 unfold mixI mixN
 simp only [rot_n,xo_n]
def smlN (x a b s:Nat):Nat:=xoN (xoN (rotN x a) (rotN x b)) (x / 2 ^ s)
theorem sml_n (x a b s:Nat):smlI (x:Int) a b s=((smlN x a b s:Nat):Int):=by
 unfold smlI smlN
 simp only [rot_n,xo_n,div_n]
def wordN (b:Nat→Nat) (t:Nat):Nat→Nat
 | 0=>0
 | i+1=>orN (wordN b t i*256 % 18446744073709551616) (b (8*t+i))
theorem word_n (b:Nat→Nat) (t:Nat):∀ i,wordI (fun j=>(b j:Int)) t i=((wordN b t i:Nat):Int)
 | 0=>rfl
 | i+1=>by
  show bits .or .u64 (IntKind.u64.wrap (wordI (fun j=>(b j:Int)) t i*256)) (b (8*t+i):Int)=_
  rw [word_n b t i,show ((wordN b t i:Nat):Int)*256=((wordN b t i*256:Nat):Int) by simp,wrap_n,or_n]
  rfl
def nxN (x2 x7 x15 x16:Nat):Nat:=(((smlN x2 19 61 6+x7) % 18446744073709551616+smlN x15 1 8 7) % 18446744073709551616+x16) % 18446744073709551616
def SchN (b s:Nat→Nat):Prop:=(∀ t,t<16→s t=wordN b t 8)∧∀ t,s (t+16)=nxN (s (t+14)) (s (t+9)) (s (t+1)) (s t)
theorem sch_n {b s:Nat→Nat} (h:SchN b s):∀ n t,t<n→schI (fun j=>(b j:Int)) n t=(s t:Int)
 | n+1,t,ht=>by
  have ih:=sch_n h n
  show updI (schI _ n) n (if n<16 then wordI _ n 8 else nxtI (schI _ n) n) t=_
  unfold updI
  split
  ·rename_i e
   subst e
   split
   ·rename_i e
    rw [word_n,h.1 t e]
   obtain ⟨k,rfl⟩:∃ k,t=k+16:=⟨t-16,by omega⟩
   unfold nxtI
   rw [show k+16-2=k+14 by omega,show k+16-7=k+9 by omega,show k+16-15=k+1 by omega,show k+16-16=k by omega,ih _ (by omega),ih _ (by omega),ih _ (by omega),ih _ (by omega),h.2,sml_n,sml_n]
   simp only [← Int.natCast_add,wrap_n]
   rfl
  exact ih t (by omega)
def oneN (e f g h k x:Nat):Nat:=((((h+mixN e 14 18 41) % 18446744073709551616+xoN (anN e f) (anN (xoN 18446744073709551615 e) g)) % 18446744073709551616+k) % 18446744073709551616+x) % 18446744073709551616
def twoN (a b c:Nat):Nat:=(mixN a 28 34 39+xoN (xoN (anN a b) (anN a c)) (anN b c)) % 18446744073709551616
structure V8 (v:Nat→Int) (a b c d e f g h:Nat):Prop where
 h0:v 0=(a:Int)
 h1:v 1=(b:Int)
 h2:v 2=(c:Int)
 h3:v 3=(d:Int)
 h4:v 4=(e:Int)
 h5:v 5=(f:Int)
 h6:v 6=(g:Int)
 h7:v 7=(h:Int)
theorem rnd_n {v:Nat→Int} {a b c d e f g h:Nat} (q:V8 v a b c d e f g h) (k x:Nat):V8 (rndI v k x) ((oneN e f g h k x+twoN a b c) % 18446744073709551616) a b c ((d+oneN e f g h k x) % 18446744073709551616) e f g:=by
 have e1:oneI v k x=((oneN e f g h k x:Nat):Int):=by
  unfold oneI notI
  rw [q.h7,q.h4,q.h5,q.h6,mix_n,show (18446744073709551615:Int)=((18446744073709551615:Nat):Int) from rfl]
  simp only [xo_n,an_n,← Int.natCast_add,wrap_n]
  rfl
 have e2:twoI v=((twoN a b c:Nat):Int):=by
  unfold twoI
  rw [q.h0,q.h1,q.h2,mix_n]
  simp only [xo_n,an_n,← Int.natCast_add,wrap_n]
  rfl
 exact {
  h0:=by show IntKind.u64.wrap (oneI v k x+twoI v)=_;rw [e1,e2,← Int.natCast_add,wrap_n]
  h1:=q.h0
  h2:=q.h1
  h3:=q.h2
  h4:=by show IntKind.u64.wrap (v 3+oneI v k x)=_;rw [e1,q.h3,← Int.natCast_add,wrap_n]
  h5:=q.h4
  h6:=q.h5
  h7:=q.h6 }
noncomputable def goS (L:List Nat):Nat→Nat→Nat→Nat→Nat→Nat→Nat→Nat→Nat→Nat→Nat→Nat→Nat→Nat→Nat→Nat→Nat→Nat→Nat→Nat→Nat→Nat→Nat→Nat→List Nat:=List.rec (motive:=fun _=>Nat→Nat→Nat→Nat→Nat→Nat→Nat→Nat→Nat→Nat→Nat→Nat→Nat→Nat→Nat→Nat→Nat→Nat→Nat→Nat→Nat→Nat→Nat→Nat→List Nat) (fun a b c d e f g h _ _ _ _ _ _ _ _ _ _ _ _ _ _ _ _=>[a,b,c,d,e,f,g,h])
 (fun k _ ih a b c d e f g h w0 w1 w2 w3 w4 w5 w6 w7 w8 w9 w10 w11 w12 w13 w14 w15=>Fe.fz1 (oneN e f g h k w0) fun t=>Fe.fz1 ((t+twoN a b c) % 18446744073709551616) fun x=>Fe.fz1 ((d+t) % 18446744073709551616) fun y=>Fe.fz1 (nxN w14 w9 w1 w0) fun w16=>ih x a b c y e f g w1 w2 w3 w4 w5 w6 w7 w8 w9 w10 w11 w12 w13 w14 w15 w16) L
theorem goS_ok {b s:Nat→Nat} (hs:SchN b s) (S:Nat→Int) (hS:∀ t,t<80→S t=(s t:Int)):∀ (L:List Nat) (t:Nat),t+L.length=80→(∀ (i k:Nat),L[i]?=some k→kI (t+i)=(k:Int))→∀ (V:Nat→Int) (a b c d e f g h w0 w1 w2 w3 w4 w5 w6 w7 w8 w9 w10 w11 w12 w13 w14 w15:Nat),V8 (rndsI V S t) a b c d e f g h→s (t+0)=w0→s (t+1)=w1→s (t+2)=w2→s (t+3)=w3→s (t+4)=w4→s (t+5)=w5→s (t+6)=w6→s (t+7)=w7→s (t+8)=w8→s (t+9)=w9→s (t+10)=w10→s (t+11)=w11→s (t+12)=w12→s (t+13)=w13→s (t+14)=w14→s (t+15)=w15 →
  ∃ a' b' c' d' e' f' g' h',goS L a b c d e f g h w0 w1 w2 w3 w4 w5 w6 w7 w8 w9 w10 w11 w12 w13 w14 w15=[a',b',c',d',e',f',g',h']∧V8 (rndsI V S 80) a' b' c' d' e' f' g' h'
 | [],t,ht,_,V,a,b,c,d,e,f,g,h,_,_,_,_,_,_,_,_,_,_,_,_,_,_,_,_,q,_,_,_,_,_,_,_,_,_,_,_,_,_,_,_,_=>by
  obtain rfl:t=80:=by simpa using ht
  exact ⟨_,_,_,_,_,_,_,_,rfl,q⟩
 | k::L,t,ht,hk,V,a,b,c,d,e,f,g,h,w0,w1,w2,w3,w4,w5,w6,w7,w8,w9,w10,w11,w12,w13,w14,w15,q,ew0,ew1,ew2,ew3,ew4,ew5,ew6,ew7,ew8,ew9,ew10,ew11,ew12,ew13,ew14,ew15=>by
  simp only [List.length_cons] at ht
  have h1:=rnd_n q k w0
  have hk0:=hk 0 k rfl
  have hS0:=hS t (by omega)
  rw [Nat.add_zero] at hk0 ew0
  rw [ew0] at hS0
  have h2:rndsI V S (t+1)=rndI (rndsI V S t) k w0:=by show rndI (rndsI V S t) (kI t) (S t)=_;rw [hk0,hS0]
  rw [← h2] at h1
  have e16:s (t+16)=nxN w14 w9 w1 w0:=by rw [hs.2,ew14,ew9,ew1,ew0]
  have ih:=goS_ok hs S hS L (t+1) (by omega) (fun i k h=>by have:=hk (i+1) k h;rwa [show t+1+i=t+(i+1) by omega]) V _ _ _ _ _ _ _ _ w1 w2 w3 w4 w5 w6 w7 w8 w9 w10 w11 w12 w13 w14 w15 (nxN w14 w9 w1 w0) h1 (by rw [show t+1+0=t+1 by omega];exact ew1) (by rw [show t+1+1=t+2 by omega];exact ew2) (by rw [show t+1+2=t+3 by omega];exact ew3) (by rw [show t+1+3=t+4 by omega];exact ew4) (by rw [show t+1+4=t+5 by omega];exact ew5) (by rw [show t+1+5=t+6 by omega];exact ew6) (by rw [show t+1+6=t+7 by omega];exact ew7) (by rw [show t+1+7=t+8 by omega];exact ew8) (by rw [show t+1+8=t+9 by omega];exact ew9) (by rw [show t+1+9=t+10 by omega];exact ew10) (by rw [show t+1+10=t+11 by omega];exact ew11) (by rw [show t+1+11=t+12 by omega];exact ew12) (by rw [show t+1+12=t+13 by omega];exact ew13) (by rw [show t+1+13=t+14 by omega];exact ew14) (by rw [show t+1+14=t+15 by omega];exact ew15) (by rw [show t+1+15=t+16 by omega];exact e16)
  have e:goS (k::L) a b c d e f g h w0 w1 w2 w3 w4 w5 w6 w7 w8 w9 w10 w11 w12 w13 w14 w15=goS L ((oneN e f g h k w0+twoN a b c) % 18446744073709551616) a b c ((d+oneN e f g h k w0) % 18446744073709551616) e f g w1 w2 w3 w4 w5 w6 w7 w8 w9 w10 w11 w12 w13 w14 w15 (nxN w14 w9 w1 w0):=by
   refine (show goS (k::L) a b c d e f g h w0 w1 w2 w3 w4 w5 w6 w7 w8 w9 w10 w11 w12 w13 w14 w15=Fe.fz1 (oneN e f g h k w0) (fun t=>Fe.fz1 ((t+twoN a b c) % 18446744073709551616) fun x=>Fe.fz1 ((d+t) % 18446744073709551616) fun y=>Fe.fz1 (nxN w14 w9 w1 w0) fun w16=>goS L x a b c y e f g w1 w2 w3 w4 w5 w6 w7 w8 w9 w10 w11 w12 w13 w14 w15 w16) from rfl).trans ?_
   simp only [Fe.fz1_eq]
  rw [e]
  exact ih
def kN:List Nat:=kL.map Int.toNat
def ivN:List Nat:=ivL.map Int.toNat
theorem kN_ok:∀ (i k:Nat),kN[i]?=some k→kI (0+i)=(k:Int):=fun i k h=>by
 have h2:∀ i:Fin 80,kI i.val=((kN.getD i.val 0:Nat):Int):=by decide +kernel
 have hi:i<80:=by have:=(List.getElem?_eq_some_iff.1 h).1;rwa [show kN.length=80 by decide +kernel] at this
 rw [Nat.zero_add,h2 ⟨i,hi⟩,List.getD_eq_getElem?_getD,h]
 rfl
def seqN (b:Nat→Nat):Nat→Nat:=fun t=>(Nat.rec (motive:=fun _=>Nat→Nat) (fun i=>wordN b i 8) (fun _ f i=>if i<15 then f (i+1) else nxN (f 14) (f 9) (f 1) (f 0)) t:Nat→Nat) 0
theorem seqN_sh (b:Nat→Nat) (t:Nat):∀ i,i<16→(Nat.rec (motive:=fun _=>Nat→Nat) (fun i=>wordN b i 8) (fun _ f i=>if i<15 then f (i+1) else nxN (f 14) (f 9) (f 1) (f 0)) t:Nat→Nat) i=seqN b (t+i):=by
 intro i
 induction i generalizing t with
 | zero=>intro _;rfl
 | succ i ih =>
  intro h
  rw [show t+(i+1)=(t+1)+i by omega,← ih (t+1) (by omega)]
  show _=if i<15 then _ else _
  rw [if_pos (by omega)]
theorem seqN_ok (b:Nat→Nat):SchN b (seqN b):=by
 refine ⟨fun t ht=>?_,fun t=>?_⟩
 ·have:=seqN_sh b 0 t ht
  rw [Nat.zero_add] at this
  exact this.symm
 have h:=fun i hi=>seqN_sh b t i hi
 have h15:=seqN_sh b (t+1) 15 (by decide)
 rw [show t+1+15=t+16 by omega] at h15
 rw [← h15]
 show (if 15<15 then _ else nxN _ _ _ _)=_
 rw [if_neg (by decide),h 14 (by decide),h 9 (by decide),h 1 (by decide),h 0 (by decide)]
 rfl
noncomputable def shaN (b:Nat→Nat):List Nat:=goS kN (ivN.getD 0 0) (ivN.getD 1 0) (ivN.getD 2 0) (ivN.getD 3 0) (ivN.getD 4 0) (ivN.getD 5 0) (ivN.getD 6 0) (ivN.getD 7 0) (wordN b 0 8) (wordN b 1 8) (wordN b 2 8) (wordN b 3 8) (wordN b 4 8) (wordN b 5 8) (wordN b 6 8) (wordN b 7 8) (wordN b 8 8) (wordN b 9 8) (wordN b 10 8) (wordN b 11 8) (wordN b 12 8) (wordN b 13 8) (wordN b 14 8) (wordN b 15 8)
theorem shaN_ok {b:Nat→Nat} {x0 x1 x2 x3 x4 x5 x6 x7:Nat} (h:shaN b=[x0,x1,x2,x3,x4,x5,x6,x7]):∀ j,j<8→blkI ivI (fun j=>(b j:Int)) j=(((ivN.getD j 0+[x0,x1,x2,x3,x4,x5,x6,x7].getD j 0) % 18446744073709551616:Nat):Int):=by
 have hs:=seqN_ok b
 have hw:∀ i,i<16→seqN b (0+i)=wordN b i 8:=fun i hi=>by rw [Nat.zero_add];exact hs.1 i hi
 obtain ⟨a',b',c',d',e',f',g',h',e1,q⟩:=goS_ok hs (schI (fun j=>(b j:Int)) 80) (fun t ht=>sch_n hs 80 t ht) kN 0 (by decide +kernel) kN_ok ivI (ivN.getD 0 0) (ivN.getD 1 0) (ivN.getD 2 0) (ivN.getD 3 0) (ivN.getD 4 0) (ivN.getD 5 0) (ivN.getD 6 0) (ivN.getD 7 0) (wordN b 0 8) (wordN b 1 8) (wordN b 2 8) (wordN b 3 8) (wordN b 4 8) (wordN b 5 8) (wordN b 6 8) (wordN b 7 8) (wordN b 8 8) (wordN b 9 8) (wordN b 10 8) (wordN b 11 8) (wordN b 12 8) (wordN b 13 8) (wordN b 14 8) (wordN b 15 8) ⟨rfl,rfl,rfl,rfl,rfl,rfl,rfl,rfl⟩ (hw 0 (by decide)) (hw 1 (by decide)) (hw 2 (by decide)) (hw 3 (by decide)) (hw 4 (by decide)) (hw 5 (by decide)) (hw 6 (by decide)) (hw 7 (by decide)) (hw 8 (by decide)) (hw 9 (by decide)) (hw 10 (by decide)) (hw 11 (by decide)) (hw 12 (by decide)) (hw 13 (by decide)) (hw 14 (by decide)) (hw 15 (by decide))
 have e2:[a',b',c',d',e',f',g',h']=[x0,x1,x2,x3,x4,x5,x6,x7]:=e1.symm.trans h
 injection e2 with a0 e2;injection e2 with a1 e2;injection e2 with a2 e2;injection e2 with a3 e2;injection e2 with a4 e2;injection e2 with a5 e2;injection e2 with a6 e2;injection e2 with a7 e2
 subst a0 a1 a2 a3 a4 a5 a6 a7
 have hv:∀ j,j<8→ivI j=((ivN.getD j 0:Nat):Int):=by decide +kernel
 intro j hj
 unfold blkI
 rw [hv j hj]
 have hr:rndsI ivI (schI (fun j=>(b j:Int)) 80) 80 j=(([a',b',c',d',e',f',g',h'].getD j 0:Nat):Int):=by
  have:j=0∨j=1∨j=2∨j=3∨j=4∨j=5∨j=6∨j=7:=by omega
  rcases this with rfl | rfl | rfl | rfl | rfl | rfl | rfl | rfl
  ·exact q.h0
  ·exact q.h1
  ·exact q.h2
  ·exact q.h3
  ·exact q.h4
  ·exact q.h5
  ·exact q.h6
  exact q.h7
 rw [hr,← Int.natCast_add,wrap_n]
end Sh

namespace Go.Proofs.YtnopjabcdloepaaGreatDoor
open Go Go.RowKit
def seed0L:List Int:=[0x9d,0x61,0xb1,0x9d,0xef,0xfd,0x5a,0x60,0xba,0x84,0x4a,0xf4,0x92,0xec,0x2c,0xc4,0x44,0x49,0xc5,0x69,0x7b,0x32,0x69,0x19,0x70,0x3b,0xac,0x03,0x1c,0xae,0x7f,0x60]
def seed0F (j:Nat):Int:=seed0L.getD j 0
theorem RowB.bat {w:World} {g n c:Nat} {f:Nat→Int} (h:RowB w g n c f) {m:Nat} (hm:m≤n):BAt w (some ⟨g,0,none⟩) m f:=fun _=>⟨g,0,rfl,h.lt,fun j hj=>by rw [Nat.zero_add];exact h.cell j (by omega)⟩
end Go.Proofs.YtnopjabcdloepaaGreatDoor

namespace Fe
open Go.Proofs.YtnopjabcdloepaaGreatDoor
end Fe
namespace Sh
open Go Go.Proofs.YtnopjabcdloepaaGreatDoor Go.Proofs
def j32 (f:Nat→Nat) (j:Nat):Nat:=if j<32 then f j else if j=32 then 128 else if j<120 then 0 else 256 / 2 ^ (56-8*(j-120)) % 256
theorem sum32 {f:Nat→Int} {g:Nat→Nat} (hf:∀ j,j<32→f j=(g j:Int)):sumI 32 f=outI (blkI ivI (fun j=>(j32 g j:Int))):=by
 show outI (blkI ivI (fun j=>joinI 32 f (128*0+j)))=_
 have e:(fun j=>joinI 32 f (128*0+j))=fun j=>(j32 g j:Int):=funext fun j=>by
  rw [show 128*0+j=j by omega]
  unfold joinI j32 endI
  by_cases h:j<32
  ·rw [if_pos h,if_pos h,hf j h]
  rw [if_neg h,if_neg h]
  by_cases h1:j=32
  ·rw [if_pos (by omega),if_pos h1];rfl
  rw [if_neg (by omega),if_neg h1]
  have hz:zerI 32=79:=by decide
  rw [hz]
  by_cases h2:j<120
  ·rw [if_pos (by omega),if_pos h2];rfl
  rw [if_neg (by omega),if_neg h2,show j-32-(9+79)=j-120 by omega]
  show (256:Int) / 2 ^ _ % 256=_
  simp
 rw [e]
theorem sum_of {f:Nat→Int} {g:Nat→Nat} {x0 x1 x2 x3 x4 x5 x6 x7:Nat} {D:List Nat} (hf:∀ j,j<32→f j=(g j:Int)) (h:shaN (j32 g)=[x0,x1,x2,x3,x4,x5,x6,x7])
  (hD:∀ j:Fin 64,(ivN.getD (j.val / 8) 0+[x0,x1,x2,x3,x4,x5,x6,x7].getD (j.val / 8) 0) % 18446744073709551616 / 2 ^ (56-8*(j.val % 8)) % 256=D.getD j.val 0):∀ j,j<64→sumI 32 f j=((D.getD j 0:Nat):Int):=fun j hj=>by
 rw [sum32 hf,← hD ⟨j,hj⟩]
 unfold outI
 rw [shaN_ok h (j / 8) (by omega)]
 simp
def seed0N (j:Nat):Nat:=(seed0L.getD j 0).toNat
def dL:List Nat:=[53,124,131,134,79,40,51,203,66,122,46,241,192,10,1,60,253,255,39,104,217,128,192,163,165,32,240,6,144,77,233,15,155,79,10,254,40,11,116,106,119,134,132,231,84,66,80,32,87,183,71,58,3,240,143,150,245,163,142,146,135,224,31,143]
def eL:List Nat:=[182,177,156,216,224,66,111,89,131,250,17,45,137,161,67,170,151,218,184,188,93,235,141,91,98,83,201,40,182,82,114,244,4,64,152,194,169,144,3,156,222,91,106,72,24,223,11,251,110,64,220,93,238,84,36,128,50,150,35,35,231,1,53,45]
def aL:List Nat:=[48,124,131,134,79,40,51,203,66,122,46,241,192,10,1,60,253,255,39,104,217,128,192,163,165,32,240,6,144,77,233,79]
theorem dig0:∀ j,j<64→sumI 32 seed0F j=((dL.getD j 0:Nat):Int) :=
 sum_of (g:=seed0N) (fun j hj=>(show ∀ j:Fin 32,seed0F j.val=(seed0N j.val:Int) by decide +kernel) ⟨j,hj⟩) (x0:=14659952490752731843) (x1:=9732982947039894017) (x2:=13947705176999315576) (x3:=18433509029732987422) (x4:=5350479210670780825) (x5:=15889012138195543041) (x6:=4049700946734666283) (x7:=11079630760672624150) (by decide +kernel) (by decide +kernel)
theorem dig1 {f:Nat→Int} (hf:∀ j,j<32→f j=((dL.getD (32+j) 0:Nat):Int)):∀ j,j<64→sumI 32 f j=((eL.getD j 0:Nat):Int) :=
 sum_of (g:=fun j=>dL.getD (32+j) 0) hf (x0:=5523584064113976913) (x1:=14452722627960544367) (x2:=6587575798882276656) (x3:=13619962718717295619) (x4:=12912460335128608971) (x5:=4852067555195527132) (x6:=5673694068867229461) (x7:=15471366699399451572) (by decide +kernel) (by decide +kernel)
theorem a0:(Sc.leV (clampI (sumI 32 seed0F)) 32).toNat=36144925721603087658594284515452164870581325872720374094707712194495455132720:=by
 have h:∀ j,j<32→clampI (sumI 32 seed0F) j=((aL.getD j 0:Nat):Int):=fun j hj=>by
  have h1:clampI (sumI 32 seed0F) j=clampI (fun j=>((dL.getD j 0:Nat):Int)) j:=by
   unfold clampI
   rw [dig0 31 (by decide),dig0 0 (by decide),dig0 j (by omega)]
  rw [h1]
  exact (show ∀ j:Fin 32,clampI (fun j=>((dL.getD j 0:Nat):Int)) j.val=((aL.getD j.val 0:Nat):Int) by decide +kernel) ⟨j,hj⟩
 rw [Sc.leV_congr 32 h]
 decide +kernel
theorem r0:(Sc.leV (Sc.byt (rI seed0F [])) 32).toNat=2015312323900227545039973048451112962192803170366412514267238242679089760755:=by
 have h:rI seed0F []=2015312323900227545039973048451112962192803170366412514267238242679089760755:=by
  show Sc.leV (sumI 32 (catI [(32,fun j=>clampI (sumI 32 seed0F) (32+j))])) 64 % LI=_
  have h1:=dig1 (f:=catI [(32,fun j=>clampI (sumI 32 seed0F) (32+j))]) (fun j hj=>by
   unfold catI
   rw [if_pos hj]
   show clampI (sumI 32 seed0F) (32+j)=_
   unfold clampI
   rw [if_neg (by omega),if_neg (by omega),dig0 _ (by omega)])
  rw [Sc.leV_congr 64 h1]
  unfold LI
  decide +kernel
 rw [h,leV_bytL (by decide) (by unfold LI;decide)]
 rfl
end Sh

namespace Go.Proofs.YtnopjabcdloepaaGreatDoor
open Go Go.RowKit
theorem RowB.bx {w:World} {g n c:Nat} {f:Nat→Int} (h:RowB w g n c f):BX [] w (some ⟨g,0,none⟩) n f:=fun _=>⟨g,0,rfl,h.lt,by simp,fun j hj=>by rw [Nat.zero_add];exact h.cell j hj⟩
theorem RowB.cap {w:World} {g n c:Nat} {f:Nat→Int} (h:RowB w g n c f):n≤c:=by
 obtain ⟨_,_,h,_⟩:=h
 exact h
theorem parts_new (w:World) (cs:List Value) (h:0<cs.length) (ty:TypeId):Parts (w.alloc (.cells cs.toArray ty)) (.slice (some ⟨w.heap.size,0,none⟩) cs.length cs.length) cs :=
 .inr ⟨_,0,_,rfl,h,Nat.le_refl _,(Blk.new _ _ _).lt,fun j u hu=>by rw [Nat.zero_add,(Blk.new w _ _).cell j];simpa using hu⟩
theorem key_byt (f:Nat→Int):Sc.Byt (Sh.ptI (Sh.keyP f)):=fun j=>by
 by_cases hj:j<32
 ·exact ptI_r _ j hj
 rw [Sh.ptI_far _ j hj]
 exact (show (0:Int)≤0∧(0:Int)<256 by decide)
theorem sig_byt (f:Nat→Int) (l:Sh.Ps):Sc.Byt (Sh.sigI f l):=Sh.catI_r _ ⟨fun j hj=>ptI_r _ j hj,fun j _=>Sc.byt_r _ j,trivial⟩
end Go.Proofs.YtnopjabcdloepaaGreatDoor
