import Derived.Test.YtnopjabcdloepaaGreatDoorZb
import Derived.Test.YtnopjabcdloepaaGreatDoorZa
import Derived.Test.YtnopjabcdloepaaGreatDoorZw
import Derived.Deep.Cut
import Derived.Deep.MidRow
import Derived.Test.YtnopjabcdloepaaGreatDoorYf
import Derived.Test.YtnopjabcdloepaaGreatDoorEh
namespace Fe
structure RA (a b c:Nat) (x y:Fin P):Prop where
 la:a<P
 lb:b<P
 lc:c<P
 nz:zf c≠0
 hx:zf a=x*zf c
 hy:zf b=y*zf c
 cv:Cv x y
theorem PA.ra {a b c d:Nat} {x y:Fin P} (h:PA a b c d x y):RA a b c x y:=⟨h.la,h.lb,h.lc,h.nz,h.hx,h.hy,h.cv⟩
theorem ra_zero:RA 0 1 1 0 1:=pa_zero.ra
def rA (c c2:Nat):Nat:=c*c2 % P
def rB (c c2:Nat):Nat:=rA c c2*rA c c2 % P
def rC (a a2:Nat):Nat:=a*a2 % P
def rF (a b a2 b2:Nat):Nat:=dN*(rC a a2*rC b b2 % P) % P
def rL (a b c a2 b2 c2:Nat):Nat:=(rB c c2+(P-rF a b a2 b2)) % P
def rM (a b c a2 b2 c2:Nat):Nat:=(rB c c2+rF a b a2 b2) % P
def rX (a b a2 b2:Nat):Nat:=(a*b2 % P+a2*b % P) % P
def rAx (a b c a2 b2 c2:Nat):Nat:=rA c c2*(rL a b c a2 b2 c2*rX a b a2 b2 % P) % P
def rAy (a b c a2 b2 c2:Nat):Nat:=rA c c2*(rM a b c a2 b2 c2*((rC a a2+rC b b2) % P) % P) % P
def rAz (a b c a2 b2 c2:Nat):Nat:=rL a b c a2 b2 c2*rM a b c a2 b2 c2 % P
theorem ra_add {a b c a2 b2 c2:Nat} {x1 y1 x2 y2:Fin P} (h:RA a b c x1 y1) (k:RA a2 b2 c2 x2 y2) :
  RA (rAx a b c a2 b2 c2) (rAy a b c a2 b2 c2) (rAz a b c a2 b2 c2) (ax x1 y1 x2 y2) (ay x1 y1 x2 y2):=by
 have ex:=ax_eq h.cv k.cv
 have ey:=ay_eq h.cv k.cv
 have np:=cr_p h.cv k.cv
 have nm:=cr_m h.cv k.cv
 have hz:zf c*zf c2≠0:=f_ne h.nz k.nz
 have hcv:=cv_add h.cv k.cv
 have hA:zf (rA c c2)=zf c*zf c2:=by unfold rA;rw [zf_mod,zf_mul]
 have hB:zf (rB c c2)=(zf c*zf c2)*(zf c*zf c2):=by unfold rB;rw [zf_mod,zf_mul,hA]
 have hC:zf (rC a a2)=x1*x2*(zf c*zf c2):=by
  unfold rC;rw [zf_mod,zf_mul,h.hx,k.hx];generalize zf c=z;generalize zf c2=z2;clear hA hB ex ey np nm hz hcv;grind
 have hE:zf (rC b b2)=y1*y2*(zf c*zf c2):=by
  unfold rC;rw [zf_mod,zf_mul,h.hy,k.hy];generalize zf c=z;generalize zf c2=z2;clear hA hB hC ex ey np nm hz hcv;grind
 have hF:zf (rF a b a2 b2)=cr x1 y1 x2 y2*((zf c*zf c2)*(zf c*zf c2)):=by
  unfold rF cr;rw [zf_mod,zf_mul,zf_mod,zf_mul,hC,hE];unfold dF;generalize zf dN=dd;generalize zf c*zf c2=z;clear hA hB hC hE ex ey np nm hz hcv;grind
 have hL:zf (rL a b c a2 b2 c2)=(1-cr x1 y1 x2 y2)*((zf c*zf c2)*(zf c*zf c2)):=by
  unfold rL;rw [zf_mod,zf_sub' _ (rF a b a2 b2) (show rF a b a2 b2<P from mod_lt' _),hB,hF]
  generalize zf c*zf c2=z;generalize cr x1 y1 x2 y2=e;clear hA hB hC hE hF ex ey np nm hz hcv;grind
 have hM:zf (rM a b c a2 b2 c2)=(1+cr x1 y1 x2 y2)*((zf c*zf c2)*(zf c*zf c2)):=by
  unfold rM;rw [zf_mod,zf_add,hB,hF]
  generalize zf c*zf c2=z;generalize cr x1 y1 x2 y2=e;clear hA hB hC hE hF hL ex ey np nm hz hcv;grind
 have hX:zf (rX a b a2 b2)=(x1*y2+y1*x2)*(zf c*zf c2):=by
  unfold rX;rw [zf_mod,zf_add,zf_mod,zf_mod,zf_mul,zf_mul,h.hx,h.hy,k.hx,k.hy]
  generalize zf c=z;generalize zf c2=z2;clear hA hB hC hE hF hL hM ex ey np nm hz hcv;grind
 have hS:zf ((rC a a2+rC b b2) % P)=(y1*y2+x1*x2)*(zf c*zf c2):=by
  rw [zf_mod,zf_add,hC,hE];generalize zf c*zf c2=z;clear hA hB hC hE hF hL hM hX ex ey np nm hz hcv;grind
 rw [← ex] at hX
 rw [← ey] at hS
 refine ⟨mod_lt' _,mod_lt' _,mod_lt' _,?_,?_,?_,hcv⟩
 ·unfold rAz;rw [zf_mod,zf_mul,hL,hM]
  exact f_ne (f_ne nm (f_ne hz hz)) (f_ne np (f_ne hz hz))
 ·unfold rAx rAz;rw [zf_mod,zf_mul,zf_mod,zf_mul,zf_mod,zf_mul,hA,hL,hM,hX]
  generalize ax x1 y1 x2 y2=x;generalize cr x1 y1 x2 y2=e;generalize zf c*zf c2=z
  clear hA hB hC hE hF hL hM hX hS ex ey np nm hz hcv h k;grind
 unfold rAy rAz;generalize (rC a a2+rC b b2) % P=S at hS ⊢;rw [zf_mod,zf_mul,zf_mod,zf_mul,zf_mod,zf_mul,hA,hL,hM,hS]
 generalize ay x1 y1 x2 y2=y;generalize cr x1 y1 x2 y2=e;generalize zf c*zf c2=z
 clear hA hB hC hE hF hL hM hX hS ex ey np nm hz hcv h k;grind
end Fe
namespace Go.Proofs.YtnopjabcdloepaaGreatDoor
open Go.RowKit
section
variable {ops:Array Oper} {rest:List Oper} {o:Oper} {a:Act} {w:World} {Q:Exit→Act→World→Prop}
end
end Go.Proofs.YtnopjabcdloepaaGreatDoor
namespace Go.Proofs.YtnopjabcdloepaaGreatDoor
open Go.RowKit
end Go.Proofs.YtnopjabcdloepaaGreatDoor
namespace Go.Proofs.YtnopjabcdloepaaGreatDoor
open Go.RowKit
end Go.Proofs.YtnopjabcdloepaaGreatDoor
namespace Go.Proofs.YtnopjabcdloepaaGreatDoor
open Go.RowKit
section
variable {ops:Array Oper} {rest:List Oper} {o:Oper} {a:Act} {w:World} {Q:Exit→Act→World→Prop}
end
end Go.Proofs.YtnopjabcdloepaaGreatDoor
namespace Go.Proofs.YtnopjabcdloepaaGreatDoor
open Go.RowKit
end Go.Proofs.YtnopjabcdloepaaGreatDoor
namespace Fe
def enc (x y:Fin P) (j:Nat):Int:=Go.Proofs.YtnopjabcdloepaaGreatDoor.ptB y.val x.val j
end Fe
namespace Go.Proofs.YtnopjabcdloepaaGreatDoor
open Go.RowKit
end Go.Proofs.YtnopjabcdloepaaGreatDoor
