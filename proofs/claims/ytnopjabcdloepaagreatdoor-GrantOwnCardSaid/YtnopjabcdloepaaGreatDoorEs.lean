import Derived.Test.YtnopjabcdloepaaGreatDoorWa
import Derived.Test.YtnopjabcdloepaaGreatDoorZb
import Derived.Test.YtnopjabcdloepaaGreatDoorEh
namespace Fe
theorem sq_one {x:Nat} (hx:x<P) (h:x*x % P=1):x=1∨x=P-1:=by
 have h0:x≠0:=fun e=>by subst e;simp at h
 obtain ⟨y,rfl⟩:∃ y,x=y+1:=⟨x-1,by omega⟩
 have hd:=Nat.div_add_mod ((y+1)*(y+1)) P
 rw [h] at hd
 have e:y*(y+2)=P*((y+1)*(y+1) / P):=by
  have:(y+1)*(y+1)=y*(y+2)+1:=by grind
  omega
 rcases Nt.Pr.dvd_mul prP (Nat.dvd_of_mod_eq_zero (by rw [e,Nat.mul_mod_right])) with hd | hd
 ·left
  rcases Nat.eq_zero_or_pos y with h | h
  ·omega
  exact absurd (Nat.le_of_dvd h hd) (by omega)
 right
 have h2:=Nat.le_of_dvd (by omega) hd
 have hP:=P_one
 omega
def qr:Nat:=(P-1) / 4
theorem qr_two:qr+qr=hf:=by unfold qr hf P;decide
theorem ex_8:ex 252 3+ex 252 3+1=qr:=by unfold ex qr P;decide
theorem v3_eq (V:Nat):v3N V=V ^ 3 % P:=by
 unfold v3N
 rw [Nat.mod_mul_mod]
 congr 1
 grind
theorem t_eq (U V:Nat):U*(v3N V*v3N V % P*V % P) % P=U*V ^ 7 % P:=by
 rw [v3_eq,← Nat.mul_mod,Nat.mod_mul_mod,Nat.mul_mod_mod]
 congr 1
 grind
theorem r0_eq (U V:Nat):r0N U V=U*V ^ 3*(U*V ^ 7) ^ ex 252 3 % P:=by
 unfold r0N
 rw [t_eq,v3_eq,Nat.mul_mod_mod U (V ^ 3) P,← Nat.pow_mod,← Nat.mul_mod]
theorem is_eq (U V:Nat):isN (r0N U V) V=U*(U*V ^ 7) ^ qr % P:=by
 unfold isN
 rw [r0_eq,← Nat.mul_mod,Nat.mod_mul_mod,← ex_8]
 generalize ex 252 3=e
 congr 1
 have h:(U*V ^ 7) ^ (e+e+1)=(U*V ^ 7) ^ e*(U*V ^ 7) ^ e*(U*V ^ 7):=(Nat.pow_succ (n:=U*V ^ 7) (m:=e+e)).trans (by rw [Nat.pow_add (U*V ^ 7) e e])
 rw [h]
 generalize (U*V ^ 7) ^ e=Y
 grind
theorem fN_even {r:Nat} (h:r<P):fN r % 2=0:=by
 unfold fN
 split
 ·rename_i ho
  have hP:P % 2=1:=by unfold P;decide
  have e:(P-r) % P=P-r:=Nat.mod_eq_of_lt (by omega)
  rw [e]
  omega
 omega
theorem P_odd:P % 2=1:=by unfold P;decide
theorem rN_even {U V:Nat}:rN U V % 2=0:=by
 unfold rN
 split
 ·exact fN_even (r0_lt U V)
 split
 ·exact fN_even (Nat.mod_lt _ P_pos)
 rfl
theorem qr_8:8*qr=(P-1)+(P-1):=by unfold qr P;decide
theorem P_two:(P-2)+1=P-1:=by unfold P;decide
def wN (U V:Nat):Nat:=U*(V ^ (P-2) % P) % P
theorem wN_lt (U V:Nat):wN U V<P:=Nat.mod_lt _ P_pos
theorem w_mul {U V:Nat} (hU:U<P) (hV:V<P) (hV0:V≠0):wN U V*V % P=U:=by
 unfold wN
 rw [Nat.mod_mul_mod,Nat.mul_assoc,← Nat.mul_mod_mod,Nat.mod_mul_mod,← Nat.pow_succ,Nat.succ_eq_add_one,P_two,Nt.fermat prP (not_dvd hV hV0),Nat.mul_one,Nat.mod_eq_of_lt hU]
def tN (w:Nat):Nat:=w ^ qr % P
theorem tN_lt (w:Nat):tN w<P:=Nat.mod_lt _ P_pos
theorem tN_sq (w:Nat):tN w*tN w % P=w ^ hf % P:=by unfold tN;rw [← Nat.mul_mod,← Nat.pow_add,qr_two]
theorem isN_w {U V:Nat} (hU:U<P) (hV:V<P) (hV0:V≠0):isN (r0N U V) V=U*tN (wN U V) % P:=by
 have hw:=w_mul hU hV hV0
 rw [is_eq,Nat.mul_mod]
 generalize wN U V=w at hw
 have h1:(U*V ^ 7) ^ qr % P=tN w:=by
  have e1:U*V ^ 7 % P=w*V ^ 8 % P:=by
   rw [← hw,Nat.mod_mul_mod]
   congr 1
   have h8:V ^ 8=V*V ^ 7:=by rw [Nat.pow_succ,Nat.mul_comm]
   rw [h8,← Nat.mul_assoc]
  rw [Nat.pow_mod,e1,← Nat.pow_mod,Nat.mul_pow,← Nat.pow_mul,qr_8,Nat.pow_add,Nat.mul_mod,Nat.mul_mod (V ^ (P-1)),Nt.fermat prP (not_dvd hV hV0)]
  rw [Nat.mul_one,Nat.mod_eq_of_lt P_one,Nat.mul_one,Nat.mod_mod]
  rfl
 rw [h1,Nat.mod_mul_mod]
theorem mul_one_iff {A t:Nat} (hA:A<P) (h0:A≠0) (ht:t<P):A*t % P=A↔t=1:=by
 constructor
 ·intro h
  have h1:t*A % P=1*A % P:=by rw [Nat.mul_comm,h,Nat.one_mul,Nat.mod_eq_of_lt hA]
  have:=Nt.mod_cancel prP (not_dvd hA h0) h1
  rw [Nat.mod_eq_of_lt ht,Nat.mod_eq_of_lt P_one] at this
  exact this
 intro h
 rw [h,Nat.mul_one,Nat.mod_eq_of_lt hA]
theorem mul_neg_iff {A t:Nat} (hA:A<P) (h0:A≠0) (ht:t<P):A*t % P=(P-A) % P↔t=P-1:=by
 rw [← neg_mod hA]
 constructor
 ·intro h
  have h1:t*A % P=(P-1)*A % P:=by rw [Nat.mul_comm,h,Nat.mul_comm]
  have:=Nt.mod_cancel prP (not_dvd hA h0) h1
  rw [Nat.mod_eq_of_lt ht,Nat.mod_eq_of_lt (by have:=P_pos;omega)] at this
  exact this
 intro h
 rw [h]
theorem bN_t {U V:Nat} (hU:U<P) (hV:V<P) (hU0:U≠0) (hV0:V≠0):bN U V=(decide (tN (wN U V)=1)||decide (tN (wN U V)=P-1)):=by
 unfold bN
 rw [isN_w hU hV hV0]
 have h1:=mul_one_iff hU hU0 (tN_lt (wN U V))
 have h2:=mul_neg_iff hU hU0 (tN_lt (wN U V))
 rw [decide_eq_decide.2 h1,decide_eq_decide.2 h2]
theorem zf_zero {a:Nat} (ha:a<P):zf a=0↔a=0:=by
 rw [← zf_0,zf_inj ha P_pos]
theorem vN_lt (n:Nat):vN n<P:=Nat.mod_lt _ P_pos
theorem f_0a (x:Fin P):0+x=x:=by grind
end Fe
namespace Fe
theorem rb_r (n j:Nat):0≤Dg.rb n j∧Dg.rb n j<256:=by
 unfold Dg.rb;omega
theorem clr_enc (x y:Fin P):clr (enc x y)=Dg.rb y.val:=by
 funext j
 have h2:=Go.Proofs.YtnopjabcdloepaaGreatDoor.rb31 y.isLt
 unfold clr enc Go.Proofs.YtnopjabcdloepaaGreatDoor.ptB
 by_cases hj:j=31
 ·subst hj
  rw [if_pos rfl,if_pos rfl]
  split <;> omega
 rw [if_neg hj,if_neg hj]
theorem sy_rb (n:Nat):∀ k,sy (Dg.rb n) k=((n % 256 ^ k:Nat):Int)
 | 0=>by unfold sy;rw [Nat.pow_zero,Nat.mod_one];rfl
 | k+1=>by
  unfold sy
  rw [sy_rb n k,Nat.mod_pow_succ]
  unfold Dg.rb
  simp only [Int.natCast_add,Int.natCast_mul,Int.natCast_pow]
  rw [Int.mul_comm]
  rfl
theorem lt_256 {n:Nat} (h:n<P):n<256 ^ 32:=Nat.lt_trans h (by unfold P;decide)
theorem nB_enc (x y:Fin P):nB (enc x y)=y.val:=by
 unfold nB
 rw [clr_enc]
 have h:=val_get (b:=Dg.rb y.val) (rb_r y.val)
 have h31:=Go.Proofs.YtnopjabcdloepaaGreatDoor.rb31 y.isLt
 have h2:sy (Dg.rb y.val) 31+Dg.rb y.val 31 % 128*256 ^ 31=(y.val:Int):=by
  rw [Int.emod_eq_of_lt h31.1 h31.2]
  have h3:=sy_rb y.val 32
  rw [Nat.mod_eq_of_lt (lt_256 y.isLt)] at h3
  unfold sy at h3
  exact h3
 rw [h2] at h
 have h3:=nv_int (getE (Dg.rb y.val) 255)
 rw [h] at h3
 have hp:(P:Int)=p:=by decide
 have h4:((y.val:Int) % p)=(y.val:Int):=Int.emod_eq_of_lt (by omega) (by rw [← hp];exact_mod_cast y.isLt)
 rw [h4] at h3
 exact Int.ofNat.inj h3
theorem getOk_enc (x y:Fin P):Go.Proofs.YtnopjabcdloepaaGreatDoor.getOk (clr (enc x y))=true:=by
 rw [clr_enc,ok_same (rb_r y.val)]
 unfold Go.Proofs.YtnopjabcdloepaaGreatDoor.lessB
 refine decide_eq_true ?_
 rw [Go.Proofs.YtnopjabcdloepaaGreatDoor.pd_sm,sm_sy,show 2*16=32 from rfl,sy_rb,Nat.mod_eq_of_lt (lt_256 y.isLt)]
 have hp:(P:Int)=p:=by decide
 rw [← hp]
 exact_mod_cast y.isLt
theorem odB_enc (x y:Fin P):odB (enc x y)=decide (x.val % 2=1):=by
 unfold odB enc Go.Proofs.YtnopjabcdloepaaGreatDoor.ptB
 have h31:=Go.Proofs.YtnopjabcdloepaaGreatDoor.rb31 y.isLt
 rw [if_pos rfl]
 refine decide_eq_decide.2 ?_
 split <;> omega
theorem v_nz (y:Fin P):zf (vN y.val)≠0:=fun h=>by
 rw [zf_v,zf_val,dF_def] at h
 obtain ⟨i,hi⟩:=f_i
 by_cases hy:y=0
 ·subst hy
  rw [f_m0,f_m0,f_0a] at h
  exact f_one h
 have hf:=fi_mul hy
 refine d_ns (i*fi y) ?_
 generalize fi y=u at *
 generalize dF=d at *
 grind
theorem cv_uv {x y:Fin P} (h:Cv x y):x*x*zf (vN y.val)=zf (uN y.val):=by
 rw [zf_v,zf_u,zf_val,dF_def]
 unfold Cv at h
 generalize dF=d at *
 grind
theorem f_sq {a b:Fin P} (h:a*a=b*b):a=b∨a = -b:=by
 have:(a-b)*(a+b)=0:=by grind
 rcases f_mul this with h1 | h1
 ·left;grind
 right;grind
theorem bN_enc {x y:Fin P} (h:Cv x y):bN (uN y.val) (vN y.val)=true:=by
 have hu:=cv_uv h
 have hv0:=v_nz y
 have hV0:vN y.val≠0:=fun e=>hv0 (by rw [e];rfl)
 by_cases hx:x=0
 ·have hU:uN y.val=0:=by
   refine (zf_zero (uN_lt _)).1 ?_
   rw [← hu,hx]
   generalize zf (vN y.val)=v
   grind
  rw [hU]
  exact rN_0.1
 have hU0:uN y.val≠0:=fun e=>by
  rw [e,zf_0] at hu
  exact f_ne (f_ne hx hx) hv0 hu
 rw [bN_t (uN_lt _) (vN_lt _) hU0 hV0]
 have hw:zf (wN (uN y.val) (vN y.val))=x*x:=by
  have h1:=congrArg zf (w_mul (uN_lt y.val) (vN_lt y.val) hV0)
  rw [zf_mod,zf_mul,← hu] at h1
  exact f_can hv0 h1
 have hw2:wN (uN y.val) (vN y.val)=x.val*x.val % P:=by
  have h1:=congrArg Fin.val hw
  have h2:(zf (wN (uN y.val) (vN y.val))).val=wN (uN y.val) (vN y.val):=Nat.mod_eq_of_lt (wN_lt _ _)
  rw [← h2,h1]
  rfl
 have ht:=tN_sq (wN (uN y.val) (vN y.val))
 have hx1:x.val ^ (P-1) % P=1:=Nt.fermat prP (not_dvd x.isLt (f_nz hx))
 rw [hw2,← Nat.pow_mod,Nat.mul_pow,← Nat.pow_add,hf_two,hx1,← hw2] at ht
 rcases sq_one (tN_lt _) ht with h1 | h1
 ·rw [decide_eq_true h1];rfl
 rw [decide_eq_true h1,Bool.or_true]
theorem gX_enc {x y:Fin P} (h:Cv x y):gB y.val (decide (x.val % 2=1))=true∧gX y.val (decide (x.val % 2=1))=x.val:=by
 have hb:=bN_enc h
 have hs:=congrArg zf (rN_sq (uN_lt y.val) hb)
 have hl:=rN_lt (uN y.val) (vN y.val)
 have he:=rN_even (U:=uN y.val) (V:=vN y.val)
 have hP:=P_odd
 rw [zf_mod,zf_mul,zf_mod,zf_mul,← cv_uv h] at hs
 have hr:=f_sq (f_can (v_nz y) hs)
 have hx:=x.isLt
 have hc:rN (uN y.val) (vN y.val)=x.val∨rN (uN y.val) (vN y.val)=(P-x.val) % P:=by
  rcases hr with h1 | h1
  ·left
   have:=congrArg Fin.val h1
   rwa [show (zf (rN (uN y.val) (vN y.val))).val=rN (uN y.val) (vN y.val) from Nat.mod_eq_of_lt hl] at this
  right
  have h2:zf (rN (uN y.val) (vN y.val))=zf ((P-x.val) % P):=by rw [h1,zf_mod,zf_sub _ (Nat.le_of_lt hx),zf_val]
  exact (zf_inj hl (mod_lt' _)).1 h2
 unfold gB gX
 rw [hb]
 generalize rN (uN y.val) (vN y.val)=r at *
 have hP0:=P_pos
 by_cases h0:x.val=0
 ·have hr0:r=0:=by
   rcases hc with h1 | h1
   ·omega
   rw [h1,h0,Nat.sub_zero,Nat.mod_self]
  have hd:decide (x.val % 2=1)=false:=decide_eq_false (by omega)
  rw [hd,hr0]
  exact ⟨rfl,h0.symm⟩
 have hm:(P-x.val) % P=P-x.val:=Nat.mod_eq_of_lt (by omega)
 rw [hm] at hc
 by_cases hodd:x.val % 2=1
 ·have hr1:r=P-x.val:=by omega
  have hrn:r≠0:=by omega
  rw [decide_eq_true hodd,decide_eq_false hrn]
  refine ⟨rfl,?_⟩
  rw [if_pos rfl,hr1]
  have:P-(P-x.val)=x.val:=by omega
  rw [this,Nat.mod_eq_of_lt hx]
 have hr1:r=x.val:=by omega
 rw [decide_eq_false hodd]
 exact ⟨rfl,by rw [if_neg (by decide)];exact hr1⟩
theorem okB_enc {x y:Fin P} (h:Cv x y):okB (enc x y)=true:=by
 unfold okB
 rw [getOk_enc,nB_enc,odB_enc,(gX_enc h).1]
 rfl
theorem dec_enc {x y:Fin P} (h:Cv x y):zf (gX (nB (enc x y)) (odB (enc x y)))=x∧zf (nB (enc x y))=y:=by
 rw [nB_enc,odB_enc,(gX_enc h).2,zf_val,zf_val]
 exact ⟨rfl,rfl⟩
end Fe
