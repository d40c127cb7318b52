import Derived.Test.YtnopjabcdloepaaGreatDoorFr
namespace Nt
def Pr (n:Nat):Prop:=2≤n∧∀ d,d ∣ n→d=1∨d=n
theorem Pr.pos {q:Nat} (h:Pr q):0<q:=by have:=h.1;omega
theorem Pr.cop {q a:Nat} (h:Pr q) (ha:¬ q ∣ a):Nat.Coprime q a:=by
 rcases h.2 _ (Nat.gcd_dvd_left q a) with h1 | h1
 ·exact h1
 exact absurd (h1 ▸ Nat.gcd_dvd_right q a) ha
theorem Pr.dvd_mul {q a b:Nat} (h:Pr q) (hd:q ∣ a*b):q ∣ a∨q ∣ b:=by
 by_cases ha:q ∣ a
 ·exact .inl ha
 exact .inr ((h.cop ha).dvd_of_dvd_mul_left hd)
def prod:List Nat→Nat
 | []=>1
 | x::t=>x*prod t
theorem prod_erase (x:Nat):∀ l:List Nat,x∈l→prod l=x*prod (l.erase x)
 | [],h=>by cases h
 | y::t,h=>by
  by_cases e:y=x
  ·subst e;simp [prod]
  have hx:x∈t:=by
   rcases List.mem_cons.1 h with h | h
   ·exact absurd h.symm e
   exact h
  have hb:(y==x)=false:=by simpa using e
  rw [List.erase_cons,hb]
  simp only [prod,prod_erase x t hx]
  simp [prod,Nat.mul_left_comm]
theorem prod_same:∀ l m:List Nat,l.Nodup→(∀ x,x∈l→x∈m)→l.length=m.length→prod l=prod m
 | [],m,_,_,hl=>by
  have:m=[]:=List.eq_nil_of_length_eq_zero (by simpa using hl.symm)
  subst this;rfl
 | x::t,m,hn,hs,hl=>by
  have hxm:=hs x (by simp)
  obtain ⟨hx,ht⟩:=List.nodup_cons.1 hn
  rw [prod_erase x m hxm,prod]
  congr 1
  refine prod_same t (m.erase x) ht (fun y hy=>?_) ?_
  ·have hne:y≠x:=fun e=>hx (e ▸ hy)
   exact (List.mem_erase_of_ne hne).2 (hs y (by simp [hy]))
  rw [List.length_erase_of_mem hxm,← hl];simp
theorem prod_map_mod (q a:Nat):∀ l:List Nat,prod (l.map fun x=>a*x % q) % q=a ^ l.length*prod l % q
 | []=>by simp [prod]
 | x::t=>by
  simp only [List.map_cons,prod,List.length_cons]
  rw [Nat.mul_mod,prod_map_mod q a t,← Nat.mul_mod,Nat.mod_mul_mod]
  congr 1
  rw [Nat.pow_succ]
  simp [Nat.mul_comm,Nat.mul_left_comm,Nat.mul_assoc]
theorem prod_not_dvd {q:Nat} (h:Pr q):∀ l:List Nat,(∀ x,x∈l→¬ q ∣ x)→¬ q ∣ prod l
 | [],_=>by
  intro hd
  have h1:=Nat.le_of_dvd (by decide) hd
  have h2:=h.1
  have h3:prod []=1:=rfl
  omega
 | x::t,hx=>by
  intro hd
  rcases h.dvd_mul hd with h1 | h1
  ·exact hx x (by simp) h1
  exact prod_not_dvd h t (fun y hy=>hx y (by simp [hy])) h1
theorem mod_cancel {q a b c:Nat} (h:Pr q) (hc:¬ q ∣ c) (he:a*c % q=b*c % q):a % q=b % q:=by
 rcases Nat.le_total a b with hab | hab
 ·have hd:q ∣ b*c-a*c:=(Nat.dvd_iff_mod_eq_zero).2 (Nat.sub_mod_eq_zero_of_mod_eq he.symm)
  rw [← Nat.sub_mul] at hd
  rcases h.dvd_mul hd with h1 | h1
  ·have:=Nat.add_mul_mod_self_left a q ((b-a) / q)
   rw [Nat.mul_div_cancel' h1] at this
   rw [← this]
   congr 1
   omega
  exact absurd h1 hc
 have hd:q ∣ a*c-b*c:=(Nat.dvd_iff_mod_eq_zero).2 (Nat.sub_mod_eq_zero_of_mod_eq he)
 rw [← Nat.sub_mul] at hd
 rcases h.dvd_mul hd with h1 | h1
 ·have:=Nat.add_mul_mod_self_left b q ((a-b) / q)
  rw [Nat.mul_div_cancel' h1] at this
  rw [← this]
  congr 1
  omega
 exact absurd h1 hc
theorem nodup_map_inj {f:Nat→Nat}:∀ l:List Nat,l.Nodup→(∀ x,x∈l→∀ y,y∈l→f x=f y→x=y)→(l.map f).Nodup
 | [],_,_=>by simp
 | x::t,hn,hi=>by
  obtain ⟨hx,ht⟩:=List.nodup_cons.1 hn
  rw [List.map_cons,List.nodup_cons]
  refine ⟨fun hm=>?_,nodup_map_inj t ht fun a ha b hb=>hi a (by simp [ha]) b (by simp [hb])⟩
  obtain ⟨y,hy,he⟩:=List.mem_map.1 hm
  have:=hi y (by simp [hy]) x (by simp) he
  exact hx (this ▸ hy)
theorem fermat {q a:Nat} (h:Pr q) (ha:¬ q ∣ a):a ^ (q-1) % q=1:=by
 have h2:=h.1
 have hl:∀ x,x∈List.range' 1 (q-1)↔1≤x∧x<q:=by
  intro x
  rw [List.mem_range'_1]
  omega
 have hnd:∀ x,x∈List.range' 1 (q-1)→¬ q ∣ x:=by
  intro x hx hd
  obtain ⟨h1,h3⟩:=(hl x).1 hx
  have:=Nat.le_of_dvd (by omega) hd
  omega
 have hs:prod ((List.range' 1 (q-1)).map fun x=>a*x % q)=prod (List.range' 1 (q-1)):=by
  refine prod_same _ _ (nodup_map_inj _ (List.nodup_range' ..) ?_) ?_ (by simp)
  ·intro x hx y hy he
   have he':x*a % q=y*a % q:=by simpa [Nat.mul_comm] using he
   have:=mod_cancel h ha he'
   rw [Nat.mod_eq_of_lt ((hl x).1 hx).2,Nat.mod_eq_of_lt ((hl y).1 hy).2] at this
   exact this
  intro x hx
  obtain ⟨y,hy,rfl⟩:=List.mem_map.1 hx
  refine (hl _).2 ⟨?_,Nat.mod_lt _ h.pos⟩
  have:¬ q ∣ a*y:=fun hd=>by
   rcases h.dvd_mul hd with h1 | h1
   ·exact ha h1
   exact hnd y hy h1
  have h0:a*y % q≠0:=fun e=>this (Nat.dvd_of_mod_eq_zero e)
  omega
 have hm:=prod_map_mod q a (List.range' 1 (q-1))
 rw [hs,List.length_range'] at hm
 have:=mod_cancel h (prod_not_dvd h _ hnd) (a:=1) (b:=a ^ (q-1)) (by rw [Nat.one_mul];exact hm)
 rw [← this]
 exact Nat.mod_eq_of_lt h.1
theorem pow_mod_one {q a:Nat} (h2:2≤q) (k:Nat) (h:a % q=1):a ^ k % q=1:=by
 rw [Nat.pow_mod,h,Nat.one_pow]
 exact Nat.mod_eq_of_lt h2
theorem poc {n q a R r:Nat} (h2n:2≤n) (hn:n-1=q*R) (hq:Pr q) (h1:a ^ (n-1) % n=1) (hg:Nat.gcd (a ^ R % n+(n-1)) n=1) (hr:Pr r) (hrn:r ∣ n):q ∣ r-1:=by
 have hr2:=hr.1
 have hnr:r≤n:=Nat.le_of_dvd (by omega) hrn
 have hq2:=hq.1
 have hR:0<R:=by
  rcases Nat.eq_zero_or_pos R with e | e
  ·subst e;omega
  exact e
 have hmod:∀ x,x % n % r=x % r:=fun x=>Nat.mod_mod_of_dvd x hrn
 have h1r:a ^ (n-1) % r=1:=by rw [← hmod,h1];exact Nat.mod_eq_of_lt hr2
 have har:¬ r ∣ a:=by
  intro hd
  have h0:a ^ (n-1) % r=0:=Nat.mod_eq_zero_of_dvd (Nat.dvd_trans hd (by obtain ⟨k,hk⟩:∃ k,n-1=k+1:=⟨n-2,by omega⟩;rw [hk,Nat.pow_succ];exact Nat.dvd_mul_left a _))
  omega
 by_cases hqr:q ∣ r-1
 ·exact hqr
 exfalso
 have hc:Nat.Coprime q (r-1):=hq.cop hqr
 have hbq:(a ^ R) ^ q % r=1:=by rw [← Nat.pow_mul,Nat.mul_comm,← hn];exact h1r
 have hbr:(a ^ R) ^ (r-1) % r=1:=by
  rw [← Nat.pow_mul,Nat.mul_comm,Nat.pow_mul]
  exact pow_mod_one hr2 R (fermat hr har) |> fun h=>by rw [Nat.pow_right_comm] at h;simpa [Nat.pow_right_comm] using h
 have key:∀ b m k:Nat,b ^ m % r=1→b ^ k % r=1→b ^ Nat.gcd m k % r=1:=by
  intro b m
  induction m using Nat.strongRecOn with
  | _ m ih =>
   intro k hm hk
   rcases Nat.eq_zero_or_pos m with e | e
   ·subst e;simpa using hk
   rw [Nat.gcd_rec]
   refine ih (k % m) (Nat.mod_lt _ e) m ?_ hm
   have hsplit:b ^ k=(b ^ m) ^ (k / m)*b ^ (k % m):=by
    rw [← Nat.pow_mul,← Nat.pow_add,Nat.div_add_mod]
   rw [hsplit,Nat.mul_mod,pow_mod_one hr2 _ hm,Nat.one_mul,Nat.mod_mod] at hk
   exact hk
 have hb:=key _ _ _ hbq hbr
 rw [hc] at hb
 rw [Nat.pow_one] at hb
 have hdr:r ∣ a ^ R % n+(n-1):=by
  apply Nat.dvd_of_mod_eq_zero
  rw [Nat.add_mod,hmod,hb]
  obtain ⟨c,rfl⟩:=hrn
  have hc0:0<c:=by
   rcases Nat.eq_zero_or_pos c with e | e
   ·subst e;omega
   exact e
  have:(r*c-1) % r=r-1:=by
   have e:r*c-1=(r-1)+r*(c-1):=by
    obtain ⟨d,rfl⟩:∃ d,c=d+1:=⟨c-1,by omega⟩
    simp [Nat.mul_add]
    omega
   rw [e,Nat.add_mul_mod_self_left]
   exact Nat.mod_eq_of_lt (by omega)
  rw [this]
  have e:1+(r-1)=r:=by omega
  rw [e,Nat.mod_self]
 have:=Nat.dvd_gcd hdr hrn
 rw [hg] at this
 have:=Nat.le_of_dvd (by decide) this
 omega
theorem exists_prime_dvd:∀ n:Nat,2≤n→∃ r,Pr r∧r ∣ n∧(Pr n∨r*r≤n):=by
 intro n hn
 have hex:∀ k,∀ m,m+k=n→2≤m→(∀ d,2≤d→d<m→¬ d ∣ n)→∃ r,2≤r∧r ∣ n∧∀ d,2≤d→d<r→¬ d ∣ n:=by
  intro k
  induction k with
  | zero=>intro m hm h2 hd;exact ⟨m,h2,by simp at hm;subst hm;exact Nat.dvd_refl _,hd⟩
  | succ k ih =>
   intro m hm h2 hd
   by_cases h:m ∣ n
   ·exact ⟨m,h2,h,hd⟩
   refine ih (m+1) (by omega) (by omega) fun d hd2 hlt=>?_
   rcases Nat.lt_or_ge d m with h' | h'
   ·exact hd d hd2 h'
   have:d=m:=by omega
   subst this;exact h
 obtain ⟨r,hr2,hrn,hmin⟩:=hex (n-2) 2 (by omega) (Nat.le_refl _) (fun d h1 h2=>by omega)
 have hpr:Pr r:=⟨hr2,fun d hd=>by
  rcases Nat.lt_or_ge d 2 with h | h
  ·have:=Nat.pos_of_dvd_of_pos hd (by omega)
   left;omega
  right
  have hle:=Nat.le_of_dvd (by omega) hd
  rcases Nat.lt_or_ge d r with h' | h'
  ·exact absurd (Nat.dvd_trans hd hrn) (hmin d h h')
  omega⟩
 refine ⟨r,hpr,hrn,?_⟩
 obtain ⟨c,hc⟩:=hrn
 rcases Nat.lt_or_ge c 2 with h | h
 ·have:c=1:=by
   rcases Nat.eq_zero_or_pos c with e | e
   ·subst e;omega
   omega
  subst this
  left
  rw [hc,Nat.mul_one];exact hpr
 right
 have hcr:r≤c:=by
  rcases Nat.lt_or_ge c r with h' | h'
  ·exact absurd ⟨r,by rw [hc,Nat.mul_comm]⟩ (hmin c h h')
  exact h'
 rw [hc]
 exact Nat.mul_le_mul_left r hcr
theorem prime_of {n F:Nat} (hn:2≤n) (hF:n<(F+1)*(F+1)) (h:∀ r,Pr r→r ∣ n→F ∣ r-1):Pr n:=by
 obtain ⟨r,hr,hrn,h' | h'⟩:=exists_prime_dvd n hn
 ·exact h'
 exfalso
 have hd:=h r hr hrn
 have hr2:=hr.1
 have hle:=Nat.le_of_dvd (by omega) hd
 have:(F+1)*(F+1)≤r*r:=Nat.mul_le_mul (by omega) (by omega)
 omega
def pm (m b:Nat):Nat→Nat→Nat
 | 0,_=>1
 | f+1,e=>(pm m b f (e / 2)) ^ 2*b ^ (e % 2) % m
theorem pm_eq (m b:Nat):∀ f e:Nat,e<2 ^ f→pm m b f e % m=b ^ e % m
 | 0,e,h=>by
  have:e=0:=by simpa using h
  subst this;rfl
 | f+1,e,h=>by
  have ih:=pm_eq m b f (e / 2) (by rw [Nat.pow_succ] at h;omega)
  simp only [pm,Nat.mod_mod]
  rw [Nat.mul_mod,Nat.pow_mod,ih,← Nat.pow_mod,← Nat.mul_mod]
  congr 1
  rw [← Nat.pow_mul,← Nat.pow_add]
  congr 1
  omega
def trial (n:Nat):Nat→Nat→Bool
 | 0,_=>true
 | f+1,d=>n % d != 0&&trial n f (d+1)
theorem trial_spec (n:Nat):∀ f d:Nat,trial n f d=true→∀ x,d≤x→x<d+f→¬ x ∣ n
 | 0,d,_,x,h1,h2=>by omega
 | f+1,d,h,x,h1,h2=>by
  simp only [trial,Bool.and_eq_true,bne_iff_ne,ne_eq] at h
  rcases Nat.lt_or_ge d x with h' | h'
  ·exact trial_spec n f (d+1) h.2 x h' (by omega)
  have:x=d:=by omega
  subst this
  exact fun hd=>h.1 (Nat.mod_eq_zero_of_dvd hd)
theorem prime_trial {n:Nat} (f:Nat) (hn:2≤n) (hf:n<(f+2)*(f+2)) (h:trial n f 2=true):Pr n:=by
 obtain ⟨r,hr,hrn,h' | h'⟩:=exists_prime_dvd n hn
 ·exact h'
 exfalso
 have hr2:=hr.1
 rcases Nat.lt_or_ge r (2+f) with hl | hl
 ·exact trial_spec n f 2 h r hr2 hl hrn
 have:(f+2)*(f+2)≤r*r:=Nat.mul_le_mul (by omega) (by omega)
 omega
def ask (n q R a:Nat):Bool:=n-1==q*R&&pm n a 256 (n-1) % n==1&&Nat.gcd (pm n a 256 R % n+(n-1)) n==1
theorem ask_spec {n q R a:Nat} (h2n:2≤n) (hb:n<2 ^ 256) (hq:Pr q) (h:ask n q R a=true) (r:Nat) (hr:Pr r) (hrn:r ∣ n):q ∣ r-1:=by
 simp only [ask,Bool.and_eq_true,beq_iff_eq] at h
 obtain ⟨⟨h1,h2⟩,h3⟩:=h
 have hR:R≤n-1:=by
  rw [h1];exact Nat.le_mul_of_pos_left R hq.pos
 rw [pm_eq _ _ _ _ (by omega)] at h2 h3
 exact poc h2n h1 hq h2 h3 hr hrn
theorem both_dvd {q s m:Nat} (hq:Pr q) (hne:¬ q ∣ s) (h1:q ∣ m) (h2:s ∣ m):q*s ∣ m :=
 Nat.Coprime.mul_dvd_of_dvd_of_dvd (hq.cop hne) h1 h2
theorem pr127:Pr 127:=prime_trial 10 (by decide) (by decide) (by decide +kernel)
theorem pr75707:Pr 75707:=prime_trial 275 (by decide) (by decide) (by decide +kernel)
theorem pr1923133:Pr 1923133:=prime_trial 1387 (by decide) (by decide) (by decide +kernel)
theorem pr8574133:Pr 8574133:=prime_trial 2928 (by decide) (by decide) (by decide +kernel)
theorem prA:Pr 1919519569386763:=by
 refine prime_of (F:=8574133*127) (by decide) (by decide) fun r hr hrn=>?_
 exact both_dvd pr8574133 (by decide) (ask_spec (R:=223873314) (a:=2) (by decide) (by decide) pr8574133 (by decide +kernel) r hr hrn) (ask_spec (R:=15114327318006) (a:=2) (by decide) (by decide) pr127 (by decide +kernel) r hr hrn)
theorem prC:Pr 75445702479781427272750846543864801:=by
 refine prime_of (F:=1919519569386763*75707) (by decide) (by decide) fun r hr hrn=>?_
 exact both_dvd prA (by decide) (ask_spec (R:=39304471641247389600) (a:=2) (by decide) (by decide) prA (by decide +kernel) r hr hrn) (ask_spec (R:=996548568557483816196003626400) (a:=2) (by decide) (by decide) pr75707 (by decide +kernel) r hr hrn)
theorem prQ:Pr 74058212732561358302231226437062788676166966415465897661863160754340907:=by
 refine prime_of (F:=75445702479781427272750846543864801*1923133) (by decide) (by decide) fun r hr hrn=>?_
 exact both_dvd prC (by decide) (ask_spec (R:=981609426360740691344999861639072106) (a:=2) (by decide) (by decide) prC (by decide +kernel) r hr hrn) (ask_spec (R:=38509147694185143878364744631319200843710219946028640589009268082) (a:=2) (by decide) (by decide) pr1923133 (by decide +kernel) r hr hrn)
theorem prp:Pr 57896044618658097711785492504343953926634992332820282019728792003956564819949:=by
 refine prime_of (F:=74058212732561358302231226437062788676166966415465897661863160754340907) (by decide) (by decide) fun r hr hrn=>?_
 exact ask_spec (R:=781764) (a:=2) (by decide) (by decide) prQ (by decide +kernel) r hr hrn
end Nt
namespace Fe
open Go.Proofs.YtnopjabcdloepaaGreatDoor
theorem val_canon {a:E} (h:R a):val (canon a)=(nv a:Int):=by rw [(canon_spec h).2,nv_int]
theorem same_iff {a b:E} (ha:R a) (hb:R b):eqE (canon a) (canon b)=true↔nv a=nv b:=by
 rw [eqE_iff]
 constructor
 ·intro h
  have h1:=val_canon ha
  have h2:=val_canon hb
  rw [h] at h1
  omega
 intro h
 exact D.inj (canon_d a) (canon_d b) (by rw [val_canon ha,val_canon hb,h])
theorem same_dec {a b:E} (ha:R a) (hb:R b):eqE (canon a) (canon b)=decide (nv a=nv b):=by
 have h:=same_iff ha hb
 by_cases hn:nv a=nv b
 ·rw [decide_eq_true hn,h.2 hn]
 rw [decide_eq_false hn,← Bool.not_eq_true]
 exact fun hh=>hn (h.1 hh)
theorem odd_iff {a:E} (h:R a):(canon a).a0 % 2=1↔nv a % 2=1:=by
 have h1:=val_canon h
 have hd:=canon_d a
 simp only [D] at hd
 unfold val at h1
 omega
theorem zero_dec {a:E} (h:R a):eqE (canon a) ⟨0,0,0,0,0⟩=decide (nv a=0):=by
 have h1:=val_canon h
 have hd:=canon_d a
 by_cases hn:nv a=0
 ·rw [decide_eq_true hn,eqE_iff]
  refine D.inj hd (by simp only [D];omega) ?_
  rw [h1,hn];rfl
 rw [decide_eq_false hn,← Bool.not_eq_true,eqE_iff]
 intro hh
 rw [hh] at h1
 have:val ⟨0,0,0,0,0⟩=0:=rfl
 omega
theorem R_zero:R ⟨0,0,0,0,0⟩:=by simp only [R];omega
theorem R_one:R ⟨1,0,0,0,0⟩:=by simp only [R];omega
theorem R_two:R ⟨2,0,0,0,0⟩:=by simp only [R];omega
theorem nv_zero:nv ⟨0,0,0,0,0⟩=0:=by decide +kernel
theorem nv_one:nv ⟨1,0,0,0,0⟩=1:=by decide +kernel
theorem nv_two:nv ⟨2,0,0,0,0⟩=2:=by decide +kernel
theorem nv_neg {a:E} (h:R a):nv (subE ⟨0,0,0,0,0⟩ a)=(P-nv a) % P:=by
 rw [nv_sub R_zero h,nv_zero,Nat.zero_add]
def ex (n L:Nat):Nat:=2 ^ n-L
theorem nv_pwx {a:E} (ha:R a) {n L:Nat} (hc:chk n L=true) (hL:L≤2 ^ n) (h1:1≤L):nv (pw a n L n)=nv a ^ ex n L % P:=by
 have h:=nv_pw ha hc hL h1 n (Nat.le_refl _)
 rw [Nat.sub_self,Nat.pow_zero,Nat.div_one] at h
 exact h
theorem pm_ex (b n L:Nat) (h1:1≤L):b ^ ex n L % P=Nt.pm P b n (ex n L) % P:=by
 refine (Nt.pm_eq P b n (ex n L) ?_).symm
 have:0<2 ^ n:=Nat.two_pow_pos n
 unfold ex
 omega
def v3N (V:Nat):Nat:=V*V % P*V % P
def r0N (U V:Nat):Nat:=U*v3N V % P*((U*(v3N V*v3N V % P*V % P) % P) ^ ex 252 3 % P) % P
def isN (r V:Nat):Nat:=r*r % P*V % P
def KK (b:Nat):Nat:=b ^ ex 253 5 % P
theorem KK_eq (b:Nat):b ^ ex 253 5 % P=KK b:=rfl
def fN (r:Nat):Nat:=if r % 2=1 then (P-r) % P else r
theorem nv_r0 {u v:E} (hu:R u) (hv:R v):nv (r0E u v)=r0N (nv u) (nv v)∧R (r0E u v):=by
 have h1:=mulE_r hv hv
 have h2:=mulE_r h1.1 hv
 have h3:=mulE_r hu h2.1
 have h4:=mulE_r h2.1 h2.1
 have h5:=mulE_r h4.1 hv
 have h6:=mulE_r hu h5.1
 have h7:=pw_r h6.1 252 3 252
 have hp:=nv_pwx h6.1 chk252 (by decide) (by decide)
 refine ⟨?_,(mulE_r h3.1 h7).1⟩
 unfold r0E
 rw [nv_mul h3.1 h7,hp,nv_mul hu h2.1,nv_mul hu h5.1,nv_mul h4.1 hv,nv_mul h2.1 h2.1,nv_mul h1.1 hv,nv_mul hv hv]
 rfl
theorem nv_is {r v:E} (hr:R r) (hv:R v):nv (isE r v)=isN (nv r) (nv v)∧R (isE r v):=by
 have h1:=mulE_r hr hr
 refine ⟨?_,(mulE_r h1.1 hv).1⟩
 unfold isE
 rw [nv_mul h1.1 hv,nv_mul hr hr]
 rfl
theorem nv_k2:nv k2=KK 2∧R k2:=by
 rw [k2_eq]
 refine ⟨?_,pw_r R_two _ _ _⟩
 exact (nv_pwx R_two chk253 (by decide) (by decide)).trans ((KK_eq _).trans (by rw [nv_two]))
theorem nv_turn {r:E} (hr:R r):nv (turnE r)=nv r*KK 2 % P∧R (turnE r):=by
 unfold turnE
 rw [nv_mul hr nv_k2.2,nv_k2.1]
 exact ⟨rfl,(mulE_r hr nv_k2.2).1⟩
theorem nv_fin {r:E} (hr:R r):nv (finE r)=fN (nv r)∧R (finE r):=by
 unfold finE fN
 by_cases h:(canon r).a0 % 2=1
 ·rw [if_pos h,if_pos ((odd_iff hr).1 h)]
  exact ⟨nv_neg hr,(subE_r R_zero hr).1⟩
 rw [if_neg h,if_neg fun hh=>h ((odd_iff hr).2 hh)]
 exact ⟨rfl,hr⟩
def bN (U V:Nat):Bool:=decide (isN (r0N U V) V=U)||decide (isN (r0N U V) V=(P-U) % P)
def rN (U V:Nat):Nat:=if isN (r0N U V) V=U then fN (r0N U V) else if isN (r0N U V) V=(P-U) % P then fN (r0N U V*KK 2 % P) else 0
theorem root_n {u v:E} (hu:R u) (hv:R v):rootB u v=bN (nv u) (nv v)∧nv (rootE u v)=rN (nv u) (nv v)∧R (rootE u v):=by
 have h0:=nv_r0 hu hv
 have h1:=nv_is h0.2 hv
 have hn:=subE_r R_zero hu
 unfold rootB rootE bN rN
 rw [same_dec h1.2 hu,same_dec h1.2 hn.1,h1.1,nv_neg hu,h0.1]
 refine ⟨rfl,?_⟩
 by_cases ha:isN (r0N (nv u) (nv v)) (nv v)=nv u
 ·simp only [ha,decide_true,if_true]
  have:=nv_fin h0.2
  rw [h0.1] at this
  exact this
 simp only [ha,decide_false,Bool.false_eq_true,if_false]
 by_cases hb:isN (r0N (nv u) (nv v)) (nv v)=(P-nv u) % P
 ·simp only [hb,decide_true,if_true]
  have ht:=nv_turn h0.2
  have:=nv_fin ht.2
  rw [ht.1,h0.1] at this
  exact this
 simp only [hb,decide_false,Bool.false_eq_true,if_false]
 exact ⟨nv_zero,R_zero⟩
def r0F (U V:Nat):Nat:=U*v3N V % P*(Nt.pm P (U*(v3N V*v3N V % P*V % P) % P) 252 (ex 252 3) % P) % P
theorem r0F_eq (U V:Nat):r0N U V=r0F U V:=by
 unfold r0N r0F
 rw [pm_ex _ 252 3 (by decide)]
theorem K2F_eq:KK 2=Nt.pm P 2 253 (ex 253 5) % P:=(KK_eq 2).symm.trans (pm_ex 2 253 5 (by decide))
end Fe
