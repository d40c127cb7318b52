import Derived.Test.YtnopjabcdloepaaGreatDoorYe
import Derived.Test.YtnopjabcdloepaaGreatDoorYh
import Derived.Test.YtnopjabcdloepaaGreatDoorMb
import Derived.Test.YtnopjabcdloepaaGreatDoorMo
import Derived.Test.YtnopjabcdloepaaGreatDoorSh
import Derived.Maps.AppendAt
namespace Nt
theorem pr1224481:Pr 1224481:=prime_trial 1106 (by decide) (by decide) (by decide +kernel)
theorem pr531581:Pr 531581:=prime_trial 729 (by decide) (by decide) (by decide +kernel)
theorem prLa:Pr 1257559732178653:=by
 refine prime_of (F:=1224481*531581) (by decide) (by decide) fun r hr hrn=>?_
 exact both_dvd pr1224481 (by decide) (ask_spec (R:=1027014492) (a:=2) (by decide) (by decide) pr1224481 (by decide +kernel) r hr hrn) (ask_spec (R:=2365697292) (a:=2) (by decide) (by decide) pr531581 (by decide +kernel) r hr hrn)
theorem prLb:Pr 4434155615661930479:=by
 refine prime_of (F:=1257559732178653) (by decide) (by decide) fun r hr hrn=>?_
 exact ask_spec (R:=3526) (a:=2) (by decide) (by decide) prLa (by decide +kernel) r hr hrn
theorem prLc:Pr 172054593956031949258510691:=by
 refine prime_of (F:=4434155615661930479) (by decide) (by decide) fun r hr hrn=>?_
 exact ask_spec (R:=38802110) (a:=2) (by decide) (by decide) prLb (by decide +kernel) r hr hrn
theorem prLd:Pr 19757330305831588566944191468367130476339:=by
 refine prime_of (F:=172054593956031949258510691) (by decide) (by decide) fun r hr hrn=>?_
 exact ask_spec (R:=114831751082918) (a:=2) (by decide) (by decide) prLc (by decide +kernel) r hr hrn
theorem prLe:Pr 276602624281642239937218680557139826668747:=by
 refine prime_of (F:=19757330305831588566944191468367130476339) (by decide) (by decide) fun r hr hrn=>?_
 exact ask_spec (R:=14) (a:=2) (by decide) (by decide) prLd (by decide +kernel) r hr hrn
theorem prLf:Pr 7237005577332262213973186563042994240857116359379907606001950938285454250989:=by
 refine prime_of (F:=276602624281642239937218680557139826668747) (by decide) (by decide) fun r hr hrn=>?_
 exact ask_spec (R:=26163907866482859529727157400808004) (a:=2) (by decide) (by decide) prLe (by decide +kernel) r hr hrn
end Nt
namespace Fe
open Go.Proofs.YtnopjabcdloepaaGreatDoor
abbrev Pt:=Fin P × Fin P
def O2:Pt:=(0,1)
theorem o2_on:On2 O2:=cv_zero
theorem gad_z (p:Pt):gad p O2=p:=Prod.ext (ax_zero _ _) (ay_zero _ _)
theorem z_gad (p:Pt):gad O2 p=p:=by rw [gad_comm,gad_z]
def nP:Nat→Pt→Pt
 | 0,_=>O2
 | n+1,p=>gad (nP n p) p
theorem nP_on {p:Pt} (h:On2 p):∀ n,On2 (nP n p)
 | 0=>o2_on
 | n+1=>gad_on (nP_on h n) h
theorem nP_add {p:Pt} (h:On2 p) (m:Nat):∀ n,nP (m+n) p=gad (nP m p) (nP n p)
 | 0=>(gad_z _).symm
 | n+1=>by
  show gad (nP (m+n) p) p=gad (nP m p) (gad (nP n p) p)
  rw [nP_add h m n,gad_assoc (nP_on h m) (nP_on h n) h]
theorem nP_zero:∀ n,nP n O2=O2
 | 0=>rfl
 | n+1=>by rw [nP,nP_zero n,gad_z]
theorem nP_one (p:Pt):nP 1 p=p:=z_gad p
theorem nP_mul {p:Pt} (h:On2 p) (m:Nat):∀ n,nP (m*n) p=nP n (nP m p)
 | 0=>rfl
 | n+1=>by rw [Nat.mul_succ,nP_add h,nP_mul h m n,nP]
theorem nP_gad {p q:Pt} (h:On2 p) (k:On2 q) (n:Nat):nP n (gad p q)=gad (nP n p) (nP n q):=by
 induction n with
 | zero =>
  show O2=gad O2 O2
  exact (gad_z O2).symm
 | succ n ih =>
  show gad (nP n (gad p q)) (gad p q)=gad (gad (nP n p) p) (gad (nP n q) q)
  rw [ih]
  exact gad_swap (nP_on h n) (nP_on k n) h k
def neg2 (p:Pt):Pt:=(-p.1,p.2)
theorem neg2_on {p:Pt} (h:On2 p):On2 (neg2 p):=cv_neg h
theorem gad_neg {p:Pt} (h:On2 p):gad p (neg2 p)=O2:=Prod.ext (ax_neg _ _) (ay_neg h)
theorem gad_cancel {p q r:Pt} (hp:On2 p) (hq:On2 q) (hr:On2 r) (h:gad p r=gad q r):p=q:=by
 have h1:=congrArg (fun s=>gad s (neg2 r)) h
 simp only [gad_assoc hp hr (neg2_on hr),gad_assoc hq hr (neg2_on hr),gad_neg hr,gad_z] at h1
 exact h1
theorem nP_neg {p:Pt} (h:On2 p) (n:Nat):nP n (neg2 p)=neg2 (nP n p):=by
 refine gad_cancel (nP_on (neg2_on h) n) (neg2_on (nP_on h n)) (nP_on h n) ?_
 rw [gad_comm (neg2 _),gad_neg (nP_on h n),← nP_gad (neg2_on h) h,gad_comm,gad_neg h,nP_zero]
def bv (A:Nat→Bool):Nat→Nat
 | 0=>0
 | n+1=>bv A n+2 ^ n*(A n).toNat
theorem oneS_nP {x y:Fin P} (h:Cv x y) (A:Nat→Bool) (m:Nat):∀ k,k≤m→∃ t,oneS x y A m k=nP t (x,y)∧t*2 ^ (m-k)+bv A (m-k)=bv A m
 | 0,_=>⟨0,rfl,by simp⟩
 | k+1,hk=>by
  obtain ⟨t,h1,h2⟩:=oneS_nP h A m k (by omega)
  have hP:On2 ((x,y):Pt):=h
  refine ⟨2*t+(A (m-1-k)).toNat,?_,?_⟩
  ·show stepF x y (oneS x y A m k) (A (m-1-k))=_
   rw [step_gad,h1,← nP_add hP,← Nat.two_mul]
   cases A (m-1-k)
   ·rfl
   rfl
  rw [← h2,show m-k=(m-(k+1))+1 by omega,bv,show m-1-k=m-(k+1) by omega,Nat.pow_succ]
  generalize m-(k+1)=d
  rw [Nat.add_mul,Nat.mul_comm (2 ^ d) ((A d).toNat),Nat.mul_comm 2 t,Nat.mul_assoc t 2,Nat.mul_comm 2 (2 ^ d)]
  omega
theorem oneS_val {x y:Fin P} (h:Cv x y) (A:Nat→Bool) (m:Nat):oneS x y A m m=nP (bv A m) (x,y):=by
 obtain ⟨t,h1,h2⟩:=oneS_nP h A m m (Nat.le_refl _)
 rw [Nat.sub_self,Nat.pow_zero,Nat.mul_one,bv,Nat.add_zero] at h2
 rw [h1,h2]
theorem rest3_val (A:Nat→Bool):∀ n s,On2 s→rest3 A n s=gad (nP (2 ^ n) s) (nP (bv A n) (zf bX,zf bY))
 | 0,s,_=>by
  show s=gad (gad O2 s) O2
  rw [gad_z,z_gad]
 | n+1,s,h=>by
  have hB:On2 ((zf bX,zf bY):Pt):=cv_base
  have hs:On2 (stepF (zf bX) (zf bY) s (A n)):=cv_step cv_base h _
  show rest3 A n (stepF (zf bX) (zf bY) s (A n))=_
  rw [rest3_val A n _ hs,step_gad,bv,nP_add hB,Nat.pow_succ,Nat.mul_comm (2 ^ n) 2,nP_mul h]
  have h2:nP 2 s=gad s s:=by rw [show (2:Nat)=1+1 from rfl,nP_add h,nP_one]
  rw [h2]
  cases A n
  ·simp only [Bool.toNat_false,Nat.mul_zero,nP,gad_z,if_false,Bool.false_eq_true]
  simp only [Bool.toNat_true,Nat.mul_one,if_true]
  rw [nP_gad (gad_on h h) hB,gad_assoc (nP_on (gad_on h h) _) (nP_on hB _) (nP_on hB _),gad_comm (nP (2 ^ n) (zf bX,zf bY))]
theorem bv_of (e:Nat):∀ n,bv (fun k=>Nat.beq (e / 2 ^ k % 2) 1) n=e % 2 ^ n
 | 0=>by simp [bv,Nat.mod_one]
 | n+1=>by
  rw [bv,bv_of e n,Nat.pow_succ,Nat.mod_mul]
  congr 2
  have:e / 2 ^ n % 2=0∨e / 2 ^ n % 2=1:=by omega
  rcases this with h | h <;> rw [h] <;> rfl
def Bp:Pt:=(zf bX,zf bY)
theorem Bp_on:On2 Bp:=cv_base
theorem ord_zero:nP ordN Bp=O2:=by
 have h:=goB_sound ordN (fun k=>Nat.beq (ordN / 2 ^ k % 2) 1) 256 (fun _ _=>rfl) 0 1 1 O2 ra_zero ord_go
 rw [rest3_val _ _ _ o2_on,nP_zero,z_gad,bv_of] at h
 have:ordN % 2 ^ 256=ordN:=by decide
 rw [this] at h
 exact h
theorem nP_mod (n:Nat):nP (n % ordN) Bp=nP n Bp:=by
 conv=>rhs;rw [← Nat.div_add_mod n ordN]
 rw [nP_add Bp_on,nP_mul Bp_on,ord_zero,nP_zero,z_gad]
end Fe
namespace Sc
open Go.Proofs.YtnopjabcdloepaaGreatDoor
theorem bits_byte:∀ x:Fin 256,(x.val / 1 % 2=1:Bool).toNat+2*(x.val / 2 % 2=1:Bool).toNat+4*(x.val / 4 % 2=1:Bool).toNat+8*(x.val / 8 % 2=1:Bool).toNat+16*(x.val / 16 % 2=1:Bool).toNat+32*(x.val / 32 % 2=1:Bool).toNat+64*(x.val / 64 % 2=1:Bool).toNat+128*(x.val / 128 % 2=1:Bool).toNat=x.val:=by decide +kernel
theorem bv_leV {b:Nat→Int} (hb:Byt b):∀ m,((Fe.bv (bitB b) (8*m):Nat):Int)=leV b m
 | 0=>rfl
 | m+1=>by
  have ih:=bv_leV hb m
  obtain ⟨x,hx⟩:∃ x:Fin 256,b m=(x.val:Int):=⟨⟨(b m).toNat,by have:=hb m;omega⟩,by have:=hb m;dsimp only;omega⟩
  have hbit:∀ r,r<8→bitB b (8*m+r)=decide (x.val / 2 ^ r % 2=1):=fun r hr=>by
   unfold bitB
   rw [show (8*m+r) / 8=m by omega,show (8*m+r) % 8=r by omega,hx,decide_eq_decide]
   have:(x.val:Int) / 2 ^ r % 2=((x.val / 2 ^ r % 2:Nat):Int):=by rw [Int.natCast_emod,Int.natCast_ediv,Int.natCast_pow];rfl
   rw [this]
   omega
  have hs:=bits_byte x
  rw [leV_succ,← ih,hx]
  have e:Fe.bv (bitB b) (8*(m+1))=Fe.bv (bitB b) (8*m)+2 ^ (8*m)*x.val:=by
   conv=>rhs;rw [← hs]
   rw [show 8*(m+1)=8*m+0+1+1+1+1+1+1+1+1 by omega]
   simp only [Fe.bv,Nat.pow_add]
   have q:=fun r hr=>hbit r hr
   have q0:=q 0 (by decide);have q1:=q 1 (by decide);have q2:=q 2 (by decide);have q3:=q 3 (by decide)
   have q4:=q 4 (by decide);have q5:=q 5 (by decide);have q6:=q 6 (by decide);have q7:=q 7 (by decide)
   simp only [Nat.add_assoc,Nat.add_zero] at q0 q1 q2 q3 q4 q5 q6 q7 ⊢
   rw [q0,q1,q2,q3,q4,q5,q6,q7]
   simp only [Nat.pow_zero,Nat.pow_one,Nat.reducePow]
   generalize 2 ^ (8*m)=X
   generalize Fe.bv (bitB b) (8*m)=Y
   simp only [Nat.mul_add,Nat.mul_assoc]
  rw [e]
  have h8:(256:Int) ^ m=((2 ^ (8*m):Nat):Int):=by rw [Nat.pow_mul];simp
  rw [h8]
  simp
end Sc
namespace Go.Proofs.YtnopjabcdloepaaGreatDoor
open Go.RowKit
theorem PtE.cv {X Y Z T:Fe.E} {x y:Fin Fe.P} (h:PtE X Y Z T x y):Fe.Cv x y:=by
 obtain ⟨a,b,c,d,_,_,_,_,hA⟩:=h
 exact hA.cv
theorem mulS_one (x y:Fin Fe.P) (A:Nat→Bool) (m:Nat):∀ k,mulS x y (upto (fun i=>(m-1-i,A (m-1-i))) k)=Fe.oneS x y A m k
 | 0=>rfl
 | k+1=>by rw [upto_succ,mulS_snoc,mulS_one x y A m k];rfl
theorem mulS_nP {x y:Fin Fe.P} (h:Fe.Cv x y) {b:Nat→Int} (hb:Sc.Byt b):mulS x y (upto (fun i=>(256-1-i,bitB b (256-1-i))) 256)=Fe.nP (Sc.leV b 32).toNat (x,y):=by
 rw [mulS_one,Fe.oneS_val h]
 have:=Sc.bv_leV hb 32
 rw [show 8*32=256 from rfl] at this
 rw [show Fe.bv (bitB b) 256=(Sc.leV b 32).toNat by omega]
theorem fmul_c (g o c:Nat) {b:Nat→Int} (hb:Sc.Byt b) {X Y Z T:Fe.E} {p:Fe.Pt} (w:World) (hg:g<w.heap.size) (hc:∀ j,j<32→w.cell? ⟨g,o+j,none⟩=some (.int .u8 (b j))) (hp:PtE X Y Z T p.1 p.2) (hCv:CvP w) :
  Calls Tryz.prog 213 #[.slice (some ⟨g,o,none⟩) 32 c,.agg (pcs X Y Z T)] w (PostQ (Fe.nP (Sc.leV b 32).toNat p).1 (Fe.nP (Sc.leV b 32).toNat p).2 w):=by
 have h:=pmul_c g o c b hb w hg hc hp hCv
 rw [mulS_nP hp.cv hb] at h
 exact h
theorem fboth_c (g1 o1 c1:Nat) {b1:Nat→Int} (hb1:Sc.Byt b1) (g2 o2 c2:Nat) {b2:Nat→Int} (hb2:Sc.Byt b2) {X Y Z T:Fe.E} {p:Fe.Pt} (w:World) (hg1:g1<w.heap.size) (hc1:∀ j,j<32→w.cell? ⟨g1,o1+j,none⟩=some (.int .u8 (b1 j))) (hg2:g2<w.heap.size) (hc2:∀ j,j<32→w.cell? ⟨g2,o2+j,none⟩=some (.int .u8 (b2 j))) (hp:PtE X Y Z T p.1 p.2) (hCv:CvP w) :
  Calls Tryz.prog 165 #[.slice (some ⟨g1,o1,none⟩) 32 c1,.agg (pcs X Y Z T),.slice (some ⟨g2,o2,none⟩) 32 c2] w (PostQ (Fe.gad (Fe.nP (Sc.leV b1 32).toNat p) (Fe.nP (Sc.leV b2 32).toNat Fe.Bp)).1 (Fe.gad (Fe.nP (Sc.leV b1 32).toNat p) (Fe.nP (Sc.leV b2 32).toNat Fe.Bp)).2 w):=by
 have h:=both_ss g1 o1 c1 b1 hb1 g2 o2 c2 b2 hb2 w hg1 hc1 hg2 hc2 hp hCv
 rw [Fe.both_sum hp.cv Fe.cv_base,Fe.oneS_val hp.cv,Fe.oneS_val Fe.cv_base] at h
 have e1:=Sc.bv_leV hb1 32
 have e2:=Sc.bv_leV hb2 32
 rw [show 8*32=256 from rfl] at e1 e2
 rw [show Fe.bv (bitB b1) 256=(Sc.leV b1 32).toNat by omega,show Fe.bv (bitB b2) 256=(Sc.leV b2 32).toNat by omega] at h
 exact h
theorem u8_info':(Tryz.prog.info? 5).map (fun i=>(i.zero,i.size,i.bytes))=some (some (.int .u8 0),1,1):=by kernel_rfl
theorem by_under':Tryz.prog.underlying 22=some (.slice 5):=by kernel_rfl
theorem own_rowB {w:World} {B n:Nat} {v:Value} {f:Nat→Int} (h:w.ownsRow B 5 1 v n (cB n f)) (hn:0<n):∃ g c,v=.slice (some ⟨g,0,none⟩) n c∧B≤g∧RowB w g n c f:=by
 rcases h.2 with ⟨_,h0⟩ | ⟨g,cap,cur,rfl,h1,h2,h3,h4,h5,h6⟩
 ·omega
 exact ⟨g,cap,rfl,h1,cur,h2,h3,h4,by omega,by rw [← h6,Nat.mul_one]⟩
theorem info3 {P:Program} {t:TypeId} {z:Value} {s b:Nat} (h:(P.info? t).map (fun i=>(i.zero,i.size,i.bytes))=some (some z,s,b)):∃ i,P.info? t=some i∧i.zero=some z∧i.size=s∧i.bytes=b:=by
 cases hq:P.info? t with
 | none=>rw [hq] at h;cases h
 | some i =>
  rw [hq] at h
  simp only [Option.map_some,Option.some.injEq,Prod.mk.injEq] at h
  exact ⟨i,rfl,h.1,h.2.1,h.2.2⟩
end Go.Proofs.YtnopjabcdloepaaGreatDoor
