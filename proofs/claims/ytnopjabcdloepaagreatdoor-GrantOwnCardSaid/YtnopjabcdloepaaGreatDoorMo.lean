import Derived.Test.YtnopjabcdloepaaGreatDoorWa
import Derived.Test.YtnopjabcdloepaaGreatDoorZd
namespace Fe
open Go.Proofs.YtnopjabcdloepaaGreatDoor
def fz1 {α:Type} (n:Nat) (k:Nat→α):α:=Nat.rec (motive:=fun _=>α) (k 0) (fun m _=>k (m+1)) n
theorem fz1_eq {α:Type} (n:Nat) (k:Nat→α):fz1 n k=k n:=by cases n <;> rfl
def ad3 {α:Type} (a b c a2 b2 c2:Nat) (k:Nat→Nat→Nat→α):α :=
 fz1 (c*c2 % P) fun A=>fz1 (A*A % P) fun B=>fz1 (a*a2 % P) fun C=>fz1 (b*b2 % P) fun E=>fz1 (dN*(C*E % P) % P) fun F=>fz1 ((B+(P-F)) % P) fun L=>fz1 ((B+F) % P) fun M =>
 fz1 ((a*b2 % P+a2*b % P) % P) fun X=>fz1 (A*(L*X % P) % P) fun x=>fz1 (A*(M*((C+E) % P) % P) % P) fun y=>fz1 (L*M % P) fun z=>k x y z
theorem ad3_eq {α:Type} (a b c a2 b2 c2:Nat) (k:Nat→Nat→Nat→α):ad3 a b c a2 b2 c2 k=k (rAx a b c a2 b2 c2) (rAy a b c a2 b2 c2) (rAz a b c a2 b2 c2):=by
 unfold ad3
 simp only [fz1_eq]
 rfl
def goB (e n:Nat):Nat→Nat→Nat→Bool:=Nat.rec (motive:=fun _=>Nat→Nat→Nat→Bool) (fun a b c=>Nat.beq a 0&&Nat.beq b c)
 (fun k ih a b c=>ad3 a b c a b c fun x y z=>cond (Nat.beq (e / 2 ^ k % 2) 1) (ad3 x y z bX bY 1 ih) (ih x y z)) n
def rest3 (A:Nat→Bool):Nat→Fin P × Fin P→Fin P × Fin P
 | 0,s=>s
 | k+1,s=>rest3 A k (stepF (zf bX) (zf bY) s (A k))
theorem ra_b:RA bX bY 1 (zf bX) (zf bY):=by
 have h:=pa_got (n:=bY) (odd:=false) (show bY<P by unfold bY P;decide) gB_bb
 rw [gX_bb] at h
 exact h.ra
theorem goB_sound (e:Nat) (A:Nat→Bool):∀ n,(∀ k,k<n→A k=Nat.beq (e / 2 ^ k % 2) 1)→∀ a b c s,RA a b c s.1 s.2→goB e n a b c=true→rest3 A n s=(0,1)
 | 0,_,a,b,c,s,h,hg=>by
  have hg':(Nat.beq a 0&&Nat.beq b c)=true:=hg
  rw [Bool.and_eq_true] at hg'
  have h1:=Nat.eq_of_beq_eq_true hg'.1
  have h2:=Nat.eq_of_beq_eq_true hg'.2
  have hx:=h.hx
  have hy:=h.hy
  rw [h1,zf_0] at hx
  rw [h2] at hy
  have e1:s.1=0:=(f_mul hx.symm).resolve_right h.nz
  have e2:s.2=1:=f_can h.nz (by rw [← hy];grind)
  exact Prod.ext e1 e2
 | n+1,hA,a,b,c,s,h,hg=>by
  have hg':(ad3 a b c a b c fun x y z=>cond (Nat.beq (e / 2 ^ n % 2) 1) (ad3 x y z bX bY 1 (goB e n)) (goB e n x y z))=true:=hg
  rw [ad3_eq,← hA n (by omega)] at hg'
  have hd:=ra_add h h
  show rest3 A n (stepF (zf bX) (zf bY) s (A n))=(0,1)
  cases hb:A n
  ·rw [hb] at hg'
   exact goB_sound e A n (fun k hk=>hA k (by omega)) _ _ _ _ hd hg'
  rw [hb] at hg'
  change ad3 _ _ _ bX bY 1 (goB e n)=true at hg'
  rw [ad3_eq] at hg'
  exact goB_sound e A n (fun k hk=>hA k (by omega)) _ _ _ _ (ra_add hd ra_b) hg'
def ordN:Nat:=7237005577332262213973186563042994240857116359379907606001950938285454250989
theorem ord_go:goB ordN 256 0 1 1=true:=by decide +kernel
end Fe
