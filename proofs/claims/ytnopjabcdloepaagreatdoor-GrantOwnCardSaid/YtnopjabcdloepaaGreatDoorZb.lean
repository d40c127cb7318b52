import Derived.Test.YtnopjabcdloepaaGreatDoorZa
import Derived.Test.YtnopjabcdloepaaGreatDoorEi
import Derived.Test.YtnopjabcdloepaaGreatDoorZw
import Derived.Test.YtnopjabcdloepaaGreatDoorEf
import Derived.Test.YtnopjabcdloepaaGreatDoorYf
import Derived.Deep.RegionHeld3
import Derived.Deep.RegionWith
namespace Fe
structure PA (a b c d:Nat) (x y:Fin P):Prop where
 la:a<P
 lb:b<P
 lc:c<P
 ld:d<P
 nz:zf c≠0
 hx:zf a=x*zf c
 hy:zf b=y*zf c
 ht:zf d=x*y*zf c
 cv:Cv x y
theorem mod_lt' (n:Nat):n % P<P:=Nat.mod_lt _ P_pos
theorem zf_sub' (a b:Nat) (h:b<P):zf (a+(P-b))=zf a-zf b:=by
 rw [zf_add,zf_sub b (Nat.le_of_lt h)];grind
theorem zf_dd:zf ((dN+dN) % P)=2*dF:=by rw [zf_mod,zf_add];unfold dF;grind
theorem f_nn {z:Fin P} (h:z≠0):2*z≠0:=f_ne f_two h
theorem pa_add {a b c d a2 b2 c2 d2:Nat} {x1 y1 x2 y2:Fin P} (h:PA a b c d x1 y1) (k:PA a2 b2 c2 d2 x2 y2) :
  PA (Go.Proofs.YtnopjabcdloepaaGreatDoor.addN a b c d a2 b2 c2 d2).1 (Go.Proofs.YtnopjabcdloepaaGreatDoor.addN a b c d a2 b2 c2 d2).2.1 (Go.Proofs.YtnopjabcdloepaaGreatDoor.addN a b c d a2 b2 c2 d2).2.2.1 (Go.Proofs.YtnopjabcdloepaaGreatDoor.addN a b c d a2 b2 c2 d2).2.2.2 (ax x1 y1 x2 y2) (ay x1 y1 x2 y2):=by
 unfold Go.Proofs.YtnopjabcdloepaaGreatDoor.addN
 have ex:=ax_eq h.cv k.cv
 have ey:=ay_eq h.cv k.cv
 have np:=cr_p h.cv k.cv
 have nm:=cr_m h.cv k.cv
 have hn:=h.nz
 have kn:=k.nz
 have hA:zf ((b+(P-a)) % P*((b2+(P-a2)) % P) % P)=(zf b-zf a)*(zf b2-zf a2):=by
  rw [zf_mod,zf_mul,zf_mod,zf_mod,zf_sub' _ _ h.la,zf_sub' _ _ k.la]
 have hB:zf ((b+a) % P*((b2+a2) % P) % P)=(zf b+zf a)*(zf b2+zf a2):=by
  rw [zf_mod,zf_mul,zf_mod,zf_mod,zf_add,zf_add]
 have hC:zf ((d*((dN+dN) % P) % P)*d2 % P)=zf d*(2*dF)*zf d2:=by
  rw [zf_mod,zf_mul,zf_mod,zf_mul,zf_dd]
 have hD:zf (((c*c2 % P)+(c*c2 % P)) % P)=2*(zf c*zf c2):=by
  rw [zf_mod,zf_add,zf_mod,zf_mul];generalize zf c*zf c2=q;grind
 generalize hAe:(b+(P-a)) % P*((b2+(P-a2)) % P) % P=A at *
 generalize hBe:(b+a) % P*((b2+a2) % P) % P=B at *
 generalize hCe:(d*((dN+dN) % P) % P)*d2 % P=C at *
 generalize hDe:((c*c2 % P)+(c*c2 % P)) % P=D at *
 have lA:A<P:=by rw [← hAe];exact mod_lt' _
 have lC:C<P:=by rw [← hCe];exact mod_lt' _
 clear hAe hBe hCe hDe
 have hE:zf ((B+(P-A)) % P)=2*((x1*y2+y1*x2)*(zf c*zf c2)):=by
  rw [zf_mod,zf_sub' _ _ lA,hA,hB,h.hx,h.hy,k.hx,k.hy]
  generalize zf c=z at *
  generalize zf c2=z2 at *
  clear hA hB hC hD ex ey np nm
  grind
 have hH:zf ((B+A) % P)=2*((y1*y2+x1*x2)*(zf c*zf c2)):=by
  rw [zf_mod,zf_add,hA,hB,h.hx,h.hy,k.hx,k.hy]
  generalize zf c=z at *
  generalize zf c2=z2 at *
  clear hA hB hC hD ex ey np nm
  grind
 have hF:zf ((D+(P-C)) % P)=2*((1-cr x1 y1 x2 y2)*(zf c*zf c2)):=by
  rw [zf_mod,zf_sub' _ _ lC,hC,hD,h.ht,k.ht]
  unfold cr
  generalize zf c=z at *
  generalize zf c2=z2 at *
  generalize dF=dd at *
  clear hA hB hC hD ex ey np nm hE hH
  grind
 have hG:zf ((D+C) % P)=2*((1+cr x1 y1 x2 y2)*(zf c*zf c2)):=by
  rw [zf_mod,zf_add,hC,hD,h.ht,k.ht]
  unfold cr
  generalize zf c=z at *
  generalize zf c2=z2 at *
  generalize dF=dd at *
  clear hA hB hC hD ex ey np nm hE hH
  grind
 have hz:zf c*zf c2≠0:=f_ne hn kn
 rw [← ex] at hE
 rw [← ey] at hH
 have hcv:=cv_add h.cv k.cv
 generalize ax x1 y1 x2 y2=x at *
 generalize ay x1 y1 x2 y2=y at *
 generalize cr x1 y1 x2 y2=e at *
 generalize (B+(P-A)) % P=E at *
 generalize (B+A) % P=H at *
 generalize (D+(P-C)) % P=F at *
 generalize (D+C) % P=G at *
 generalize zf c*zf c2=z at *
 refine ⟨mod_lt' _,mod_lt' _,mod_lt' _,mod_lt' _,?_,?_,?_,?_,hcv⟩
 ·show zf (F*G % P)≠0
  rw [zf_mod,zf_mul,hF,hG]
  exact f_ne (f_nn (f_ne nm hz)) (f_nn (f_ne np hz))
 ·show zf (E*F % P)=x*zf (F*G % P)
  rw [zf_mod,zf_mul,zf_mod,zf_mul,hE,hF,hG]
  clear hA hB hC hD ex ey np nm hE hH hF hG hn kn h k hz hcv
  grind
 ·show zf (G*H % P)=y*zf (F*G % P)
  rw [zf_mod,zf_mul,zf_mod,zf_mul,hH,hF,hG]
  clear hA hB hC hD ex ey np nm hE hH hF hG hn kn h k hz hcv
  grind
 show zf (E*H % P)=x*y*zf (F*G % P)
 rw [zf_mod,zf_mul,zf_mod,zf_mul,hE,hH,hF,hG]
 clear hA hB hC hD ex ey np nm hE hH hF hG hn kn h k hz hcv
 grind
theorem pa_dbl {a b c d:Nat} {x1 y1:Fin P} (h:PA a b c d x1 y1) :
  PA (Go.Proofs.YtnopjabcdloepaaGreatDoor.dblN a b c).1 (Go.Proofs.YtnopjabcdloepaaGreatDoor.dblN a b c).2.1 (Go.Proofs.YtnopjabcdloepaaGreatDoor.dblN a b c).2.2.1 (Go.Proofs.YtnopjabcdloepaaGreatDoor.dblN a b c).2.2.2 (ax x1 y1 x1 y1) (ay x1 y1 x1 y1):=by
 unfold Go.Proofs.YtnopjabcdloepaaGreatDoor.dblN
 have ex:=ax_eq h.cv h.cv
 have ey:=ay_eq h.cv h.cv
 have np:=cr_p h.cv h.cv
 have nm:=cr_m h.cv h.cv
 have hn:=h.nz
 have hA:zf (a*a % P)=zf a*zf a:=by rw [zf_mod,zf_mul]
 have hB:zf (b*b % P)=zf b*zf b:=by rw [zf_mod,zf_mul]
 have hC:zf (((c*c % P)+(c*c % P)) % P)=2*(zf c*zf c):=by
  rw [zf_mod,zf_add,zf_mod,zf_mul];generalize zf c*zf c=q;grind
 have hS:zf ((a+b) % P*((a+b) % P) % P)=(zf a+zf b)*(zf a+zf b):=by
  rw [zf_mod,zf_mul,zf_mod,zf_add]
 generalize hAe:a*a % P=A at *
 generalize hBe:b*b % P=B at *
 generalize hCe:((c*c % P)+(c*c % P)) % P=C at *
 generalize hSe:(a+b) % P*((a+b) % P) % P=S at *
 have lA:A<P:=by rw [← hAe];exact mod_lt' _
 have lC:C<P:=by rw [← hCe];exact mod_lt' _
 clear hAe hBe hCe hSe
 have hQ:zf ((A+B) % P)=(x1*x1+y1*y1)*(zf c*zf c):=by
  rw [zf_mod,zf_add,hA,hB,h.hx,h.hy];generalize zf c=z;clear hA hB hC hS ex ey np nm;grind
 have lQ:=mod_lt' (A+B)
 generalize (A+B) % P=Q at *
 have hE:zf ((S+(P-Q)) % P)=(x1*y1+y1*x1)*(zf c*zf c):=by
  rw [zf_mod,zf_sub' _ _ lQ,hS,hQ,h.hx,h.hy]
  generalize zf c=z at *
  clear hA hB hC hS hQ ex ey np nm
  grind
 have hG:zf ((B+(P-A)) % P)=(1+cr x1 y1 x1 y1)*(zf c*zf c):=by
  have hc:=h.cv
  rw [zf_mod,zf_sub' _ _ lA,hA,hB,h.hx,h.hy]
  unfold cr
  unfold Cv at hc
  generalize zf c=z at *
  generalize dF=dd at *
  clear hA hB hC hS hQ ex ey np nm hE
  grind
 have lG:=mod_lt' (B+(P-A))
 generalize (B+(P-A)) % P=G at *
 have hF:zf ((G+(P-C)) % P) = -((1-cr x1 y1 x1 y1)*(zf c*zf c)):=by
  rw [zf_mod,zf_sub' _ _ lC,hC,hG]
  generalize zf c=z at *
  generalize cr x1 y1 x1 y1=e at *
  clear hA hB hC hS hQ ex ey np nm hE hG
  grind
 have hH:zf ((P-Q) % P) = -((y1*y1+x1*x1)*(zf c*zf c)):=by
  rw [zf_mod,zf_sub _ (Nat.le_of_lt lQ),hQ]
  generalize zf c=z at *
  clear hA hB hC hS hQ ex ey np nm hE hG hF
  grind
 have hz:zf c*zf c≠0:=f_ne hn hn
 rw [← ex] at hE
 rw [← ey] at hH
 have hcv:=cv_add h.cv h.cv
 generalize ax x1 y1 x1 y1=x at *
 generalize ay x1 y1 x1 y1=y at *
 generalize cr x1 y1 x1 y1=e at *
 generalize (S+(P-Q)) % P=E at *
 generalize (P-Q) % P=H at *
 generalize (G+(P-C)) % P=F at *
 generalize zf c*zf c=z at *
 refine ⟨mod_lt' _,mod_lt' _,mod_lt' _,mod_lt' _,?_,?_,?_,?_,hcv⟩
 ·show zf (F*G % P)≠0
  rw [zf_mod,zf_mul,hF,hG]
  refine f_ne (fun h0=>f_ne nm hz ?_) (f_ne np hz)
  generalize (1-e)*z=q at *
  clear hA hB hC hS hQ ex ey np nm hE hH hF hG hn h hz hcv
  grind
 ·show zf (E*F % P)=x*zf (F*G % P)
  rw [zf_mod,zf_mul,zf_mod,zf_mul,hE,hF,hG]
  clear hA hB hC hS hQ ex ey np nm hE hH hF hG hn h hz hcv
  grind
 ·show zf (G*H % P)=y*zf (F*G % P)
  rw [zf_mod,zf_mul,zf_mod,zf_mul,hH,hF,hG]
  clear hA hB hC hS hQ ex ey np nm hE hH hF hG hn h hz hcv
  grind
 show zf (E*H % P)=x*y*zf (F*G % P)
 rw [zf_mod,zf_mul,zf_mod,zf_mul,hE,hH,hF,hG]
 clear hA hB hC hS hQ ex ey np nm hE hH hF hG hn h hz hcv
 grind
theorem pa_neg {a b c d:Nat} {x y:Fin P} (h:PA a b c d x y):PA ((P-a) % P) b c ((P-d) % P) (-x) y:=by
 refine ⟨mod_lt' _,h.lb,h.lc,mod_lt' _,h.nz,?_,h.hy,?_,cv_neg h.cv⟩
 ·rw [zf_mod,zf_sub _ (Nat.le_of_lt h.la),h.hx];generalize zf c=z;grind
 rw [zf_mod,zf_sub _ (Nat.le_of_lt h.ld),h.ht];generalize zf c=z;grind
theorem f_one:(1:Fin P)≠0:=fun h=>absurd (congrArg Fin.val h) (by show 1 % P≠0 % P;unfold P;decide)
theorem pa_zero:PA 0 1 1 0 0 1:=by
 refine ⟨P_pos,P_one,P_one,P_pos,by rw [zf_1];exact f_one,?_,?_,?_,cv_zero⟩
 ·rw [zf_0,zf_1,f_m1]
 ·rw [zf_1,f_m1]
 rw [zf_0,zf_1,f_m1,f_m1]
theorem pa_x {a b c d:Nat} {x y:Fin P} (h:PA a b c d x y):a*(c ^ (P-2) % P) % P=x.val:=by
 have h1:zf (a*(c ^ (P-2) % P) % P)=x:=by
  rw [zf_mod,zf_mul,← fi_zf,h.hx]
  have:=fi_mul h.nz
  generalize fi (zf c)=u at *
  generalize zf c=z at *
  clear h
  grind
 have h2:=congrArg Fin.val h1
 rw [← h2]
 exact (Nat.mod_eq_of_lt (mod_lt' _)).symm
theorem pa_y {a b c d:Nat} {x y:Fin P} (h:PA a b c d x y):b*(c ^ (P-2) % P) % P=y.val:=by
 have h1:zf (b*(c ^ (P-2) % P) % P)=y:=by
  rw [zf_mod,zf_mul,← fi_zf,h.hy]
  have:=fi_mul h.nz
  generalize fi (zf c)=u at *
  generalize zf c=z at *
  clear h
  grind
 have h2:=congrArg Fin.val h1
 rw [← h2]
 exact (Nat.mod_eq_of_lt (mod_lt' _)).symm
theorem zf_eq {a b:Nat} (ha:a<P) (hb:b<P):a=b↔zf a=zf b:=(zf_inj ha hb).symm
theorem pa_same {a b c d a2 b2 c2 d2:Nat} {x y x2 y2:Fin P} (h:PA a b c d x y) (k:PA a2 b2 c2 d2 x2 y2):Go.Proofs.YtnopjabcdloepaaGreatDoor.sameP a b c a2 b2 c2=(decide (x=x2)&&decide (y=y2)):=by
 unfold Go.Proofs.YtnopjabcdloepaaGreatDoor.sameP
 have hz:=f_ne h.nz k.nz
 congr 1
 ·refine decide_eq_decide.2 ?_
  rw [zf_eq (mod_lt' _) (mod_lt' _),zf_mod,zf_mul,zf_mod,zf_mul,h.hx,k.hx]
  constructor
  ·intro e
   refine f_can hz ?_
   generalize zf c=z at *
   generalize zf c2=z2 at *
   clear h k hz
   grind
  intro e
  rw [e]
  generalize zf c=z at *
  generalize zf c2=z2 at *
  clear h k hz
  grind
 refine decide_eq_decide.2 ?_
 rw [zf_eq (mod_lt' _) (mod_lt' _),zf_mod,zf_mul,zf_mod,zf_mul,h.hy,k.hy]
 constructor
 ·intro e
  refine f_can hz ?_
  generalize zf c=z at *
  generalize zf c2=z2 at *
  clear h k hz
  grind
 intro e
 rw [e]
 generalize zf c=z at *
 generalize zf c2=z2 at *
 clear h k hz
 grind
theorem dF_def:zf dN=dF:=rfl
theorem pa_got {n:Nat} {odd:Bool} (hn:n<P) (h:gB n odd=true):PA (gX n odd) n 1 (gX n odd*n % P) (zf (gX n odd)) (zf n):=by
 have hc:=g_curve h
 refine ⟨gX_lt _ _,hn,P_one,mod_lt' _,by rw [zf_1];exact f_one,?_,?_,?_,hc⟩
 ·rw [zf_1,f_m1]
 ·rw [zf_1,f_m1]
 rw [zf_1,f_m1,zf_mod,zf_mul]
end Fe
namespace Go.Proofs.YtnopjabcdloepaaGreatDoor
open Go.RowKit
theorem eqnilB_some (ad:Addr) (n c:Nat) (w:World):(binOp .eql 22 (.slice (some ad) n c) (.slice none 0 0)).run Tryz.prog w=.ok (.bool false) w:=by kernel_rfl
def PostCb (n:Nat) (b:Nat→Int) (w:World) (e:Ending) (w':World):Prop:=∃ g' c',e=.returned (.slice (some ⟨g',0,none⟩) n c')∧w.heap.size≤g'∧RowB w' g' n c' b∧Below w.heap.size w w'
set_option maxRecDepth 20000 in
set_option maxHeartbeats 8000000 in
theorem cloneB_c (g o n c:Nat) (b:Nat→Int) (hn:n≤1000000) (w:World) (hg:g<w.heap.size) (hc:∀ j,j<n→w.cell? ⟨g,o+j,none⟩=some (.int .u8 (b j))) :
  Calls Tryz.prog 126 #[.slice (some ⟨g,o,none⟩) n c] w (PostCb n b w):=by
 have hR0:RowB (w.alloc (.cells #[] 5)) w.heap.size 0 0 b:=⟨#[],heap_alloc_new w _,Nat.le_refl _,Nat.zero_le _,rfl,rfl⟩
 have hb0:Below w.heap.size w (w.alloc (.cells #[] 5)):=(Below.refl _ _).alloc (Nat.le_refl _) _
 have hcs:∀ j,j<n→(w.alloc (.cells #[] 5)).cell? ((⟨g,o,none⟩:Addr).add j)=some (.int .u8 (b (0+j))):=fun j hj=>by
  rw [add_o,Nat.zero_add]
  exact (hb0.cell (p:=⟨g,o+j,none⟩) hg).trans (hc j hj)
 replace hR0:=Lib.hid hR0
 replace hcs:=Lib.hid hcs
 replace hb0:=Lib.hid hb0
 clear hc hg
 have he:=eqnilB_some ⟨g,o,none⟩ n c
 go_enter Tryz.func126,Tryz.ntmps126
 go_wp2_with (at_builtin;refine wpList_app rfl rfl rfl hR0.out rfl b (fun _ _=>rfl) hcs.out (by omega) ?_;intro g' c' w' hR hgr hcase;have hle:w.heap.size≤g':=(by have:=hb0.out.size;rcases hcase with h | h <;> omega);have hP:=Lib.hid (show PostCb n b w (.returned (.slice (some ⟨g',0,none⟩) n c')) w' from ⟨g',c',rfl,hle,by rw [Nat.zero_add] at hR;exact hR,hb0.out.grown hgr hb0.out.size (fun k hk=>by injection hk with hk;omega)⟩);clear hR hgr hcase hle)
 go_returns
 exact hP.out
set_option maxRecDepth 20000 in
set_option maxHeartbeats 8000000 in
theorem zero4_c (w:World):Calls Tryz.prog 261 #[] w fun e w'=>e=.returned (.agg #[.int .u64 0,.int .u64 0,.int .u64 0,.int .u64 0,.int .u64 0,.int .u64 1,.int .u64 0,.int .u64 0,.int .u64 0,.int .u64 0,.int .u64 1,.int .u64 0,.int .u64 0,.int .u64 0,.int .u64 0,.int .u64 0,.int .u64 0,.int .u64 0,.int .u64 0,.int .u64 0])∧Below w.heap.size w w':=by
 go_enter Tryz.func261,Tryz.ntmps261
 go_wp2_with fail
 refine calls_at (fun W0 hW=>?_)
 have k0:Blk W0 w.heap.size 204 #[.int .u64 0,.int .u64 0,.int .u64 0,.int .u64 0,.int .u64 0,.int .u64 0,.int .u64 0,.int .u64 0,.int .u64 0,.int .u64 0,.int .u64 0,.int .u64 0,.int .u64 0,.int .u64 0,.int .u64 0,.int .u64 0,.int .u64 0,.int .u64 0,.int .u64 0,.int .u64 0]:=by rw [hW];exact Blk.new _ _ _
 have hb0:Below w.heap.size w W0:=by rw [hW];go_grown
 clear hW
 obtain ⟨G0,hG0⟩:∃ G0,G0=w.heap.size:=⟨_,rfl⟩
 rw [← hG0] at k0 ⊢
 have lo0:w.heap.size≤G0:=by omega
 clear hG0
 refine (fOne _).mono ?_
 rintro e w1 ⟨rfl,hb⟩
 replace k0:=k0.below hb
 replace hb0:=hb0.trans (hb.mono hb0.size)
 clear hb
 go_wp2_with fail
 refine (fOne _).mono ?_
 rintro e w2 ⟨rfl,hb⟩
 replace k0:=k0.below hb
 replace hb0:=hb0.trans (hb.mono hb0.size)
 clear hb
 go_wp2_with (refine stPt rfl rfl rfl rfl k0 rfl rfl (by kernel_rfl) ?_;intro w3 k1 hgr hsz)
 exact retPt rfl rfl k1 rfl rfl ⟨rfl,hb0.grown hgr hb0.size (fun k hk=>by injection hk with hk;omega)⟩
def ptB (y x j:Nat):Int:=if j=31 then Dg.rb y 31+(if x % 2=1 then 128 else 0) else Dg.rb y j
theorem fPut {x:Fe.E} {n:Nat} (hx:El x n) (w:World):Calls Tryz.prog 302 #[.agg #[.int .u64 x.a0,.int .u64 x.a1,.int .u64 x.a2,.int .u64 x.a3,.int .u64 x.a4]] w fun e w'=>∃ g,w.heap.size≤g∧e=.returned (.slice (some ⟨g,0,none⟩) 32 32)∧RowB w' g 32 32 (fun j=>Dg.rb n j)∧Below w.heap.size w w' :=
 (put_E x hx.1.w (Fe.canon_d x).w w).mono fun _ _ ⟨g,h1,h2,h3,h4⟩=>⟨g,h1,h2,⟨_,h3,Nat.le_refl _,by unfold maxLen;omega,rfl,by
  show (putV (Fe.canon x) 255).toList.take 32=cB 32 _
  have e:(putV (Fe.canon x) 255).toList=cB 32 (fun j=>Fe.pb (Fe.canon x) 255 j):=rfl
  rw [e,List.take_of_length_le (by rw [cB_len];omega)]
  refine cB_congr fun i hi=>?_
  rw [← hx.2]
  exact Dg.put_rb hx.1 i hi⟩,h4⟩
theorem or128 {x:Int} (h0:0≤x) (h1:x<128):bits .or .u8 x 128=x+128:=by
 have h:∀ y:Fin 128,bits .or .u8 (y.val:Int) 128=(y.val:Int)+128:=by decide +kernel
 have:=h ⟨x.toNat,by omega⟩
 simpa [Int.toNat_of_nonneg h0] using this
theorem rb31 {n:Nat} (h:n<Fe.P):0≤Dg.rb n 31∧Dg.rb n 31<128:=by
 unfold Dg.rb
 have h1:n / 256 ^ 31<128:=Nat.div_lt_of_lt_mul (Nat.lt_of_lt_of_le h (by unfold Fe.P;decide))
 omega
set_option maxRecDepth 20000 in
set_option maxHeartbeats 8000000 in
theorem put4_c {x1 y1 z1 t1:Fe.E} {a b c:Nat} (hx1:El x1 a) (hy1:El y1 b) (hz1:El z1 c) (w:World):Calls Tryz.prog 212 #[.agg #[.int .u64 x1.a0,.int .u64 x1.a1,.int .u64 x1.a2,.int .u64 x1.a3,.int .u64 x1.a4,.int .u64 y1.a0,.int .u64 y1.a1,.int .u64 y1.a2,.int .u64 y1.a3,.int .u64 y1.a4,.int .u64 z1.a0,.int .u64 z1.a1,.int .u64 z1.a2,.int .u64 z1.a3,.int .u64 z1.a4,.int .u64 t1.a0,.int .u64 t1.a1,.int .u64 t1.a2,.int .u64 t1.a3,.int .u64 t1.a4]] w fun e w'=>∃ g,w.heap.size≤g∧e=.returned (.slice (some ⟨g,0,none⟩) 32 32)∧RowB w' g 32 32 (fun j=>ptB (b*(c ^ (Fe.P-2) % Fe.P) % Fe.P) (a*(c ^ (Fe.P-2) % Fe.P) % Fe.P) j)∧Below w.heap.size w w':=by
 obtain ⟨zi,hzi⟩:∃ zi,zi=c ^ (Fe.P-2) % Fe.P:=⟨_,rfl⟩
 rw [← hzi]
 replace hzi:=Lib.hid hzi
 obtain ⟨yn,hyn⟩:∃ yn,yn=b*zi % Fe.P:=⟨_,rfl⟩
 rw [← hyn]
 replace hyn:=Lib.hid hyn
 obtain ⟨xn,hxn⟩:∃ xn,xn=a*zi % Fe.P:=⟨_,rfl⟩
 rw [← hxn]
 replace hxn:=Lib.hid hxn
 obtain ⟨OB,hOB⟩:∃ OB,decide (xn % 2=1)=OB:=⟨_,rfl⟩
 replace hOB:=Lib.hid hOB
 go_enter Tryz.func212,Tryz.ntmps212
 go_wp2_with fail
 refine calls_at (fun W0 hW=>?_)
 have k0:Blk W0 w.heap.size 204 #[.int .u64 x1.a0,.int .u64 x1.a1,.int .u64 x1.a2,.int .u64 x1.a3,.int .u64 x1.a4,.int .u64 y1.a0,.int .u64 y1.a1,.int .u64 y1.a2,.int .u64 y1.a3,.int .u64 y1.a4,.int .u64 z1.a0,.int .u64 z1.a1,.int .u64 z1.a2,.int .u64 z1.a3,.int .u64 z1.a4,.int .u64 t1.a0,.int .u64 t1.a1,.int .u64 t1.a2,.int .u64 t1.a3,.int .u64 t1.a4]:=by rw [hW];exact Blk.new _ _ _
 have hb0:Below w.heap.size w W0:=by rw [hW];go_grown
 clear hW
 obtain ⟨G0,hG0⟩:∃ G0,G0=w.heap.size:=⟨_,rfl⟩
 rw [← hG0] at k0 ⊢
 have lo0:w.heap.size≤G0:=by omega
 clear hG0
 refine (fInvert hz1 _).mono ?_
 rintro e w1 ⟨u1,rfl,hu1,hb⟩
 rw [← hzi.out] at hu1
 replace k0:=k0.below hb
 replace hb0:=hb0.trans (hb.mono hb0.size)
 clear hb
 have q0:w1.cell? ⟨G0,5,none⟩=some (.int .u64 y1.a0):=k0.cell 5
 have q1:w1.cell? ⟨G0,6,none⟩=some (.int .u64 y1.a1):=k0.cell 6
 have q2:w1.cell? ⟨G0,7,none⟩=some (.int .u64 y1.a2):=k0.cell 7
 have q3:w1.cell? ⟨G0,8,none⟩=some (.int .u64 y1.a3):=k0.cell 8
 have q4:w1.cell? ⟨G0,9,none⟩=some (.int .u64 y1.a4):=k0.cell 9
 have hlt:=k0.lt
 go_wp2_with fail
 clear q0 q1 q2 q3 q4
 refine calls_at (fun W1 hW=>?_)
 have k1:Blk W1 w1.heap.size 202 #[.int .u64 u1.a0,.int .u64 u1.a1,.int .u64 u1.a2,.int .u64 u1.a3,.int .u64 u1.a4]:=by rw [hW];exact Blk.new _ _ _
 have hb:Below w1.heap.size w1 W1:=by rw [hW];exact (Below.refl _ _).alloc (Nat.le_refl _) _
 clear hW
 obtain ⟨G1,hG1⟩:∃ G1,G1=w1.heap.size:=⟨_,rfl⟩
 rw [← hG1] at k1 ⊢
 replace k0:=k0.below hb
 replace hb0:=hb0.trans (hb.mono hb0.size)
 have hne:G0≠G1:=by omega
 have hlo1:w.heap.size≤G1:=by omega
 have hlt1:=k1.lt
 clear hb hG1 hlt
 refine (fMul hy1 hu1 _).mono ?_
 rintro e w2 ⟨u2,rfl,hu2,hb⟩
 rw [← hyn.out] at hu2
 replace k0:=k0.below hb
 replace k1:=k1.below hb
 replace hb0:=hb0.trans (hb.mono hb0.size)
 clear hb
 go_wp2_with fail
 refine (fPut hu2 _).mono ?_
 rintro e w3 ⟨g,hg,rfl,hR,hb⟩
 have hgw:w.heap.size≤g:=Nat.le_trans hb0.size hg
 have hgG0:g≠G0:=by have:=k0.lt;omega
 have hgG1:g≠G1:=by have:=k1.lt;omega
 replace k0:=k0.below hb
 replace k1:=k1.below hb
 replace hb0:=hb0.trans (hb.mono hb0.size)
 clear hb hg
 have q0:w3.cell? ⟨G0,0,none⟩=some (.int .u64 x1.a0):=k0.cell 0
 have q1:w3.cell? ⟨G0,1,none⟩=some (.int .u64 x1.a1):=k0.cell 1
 have q2:w3.cell? ⟨G0,2,none⟩=some (.int .u64 x1.a2):=k0.cell 2
 have q3:w3.cell? ⟨G0,3,none⟩=some (.int .u64 x1.a3):=k0.cell 3
 have q4:w3.cell? ⟨G0,4,none⟩=some (.int .u64 x1.a4):=k0.cell 4
 have s0:w3.cell? ⟨G1,0,none⟩=some (.int .u64 u1.a0):=k1.cell 0
 have s1:w3.cell? ⟨G1,1,none⟩=some (.int .u64 u1.a1):=k1.cell 1
 have s2:w3.cell? ⟨G1,2,none⟩=some (.int .u64 u1.a2):=k1.cell 2
 have s3:w3.cell? ⟨G1,3,none⟩=some (.int .u64 u1.a3):=k1.cell 3
 have s4:w3.cell? ⟨G1,4,none⟩=some (.int .u64 u1.a4):=k1.cell 4
 replace hR:=Lib.hid hR
 go_wp2_with fail
 clear q0 q1 q2 q3 q4 s0 s1 s2 s3 s4
 refine (fMul hx1 hu1 _).mono ?_
 rintro e w4 ⟨u3,rfl,hu3,hb⟩
 rw [← hxn.out] at hu3
 replace hR:=Lib.hid (hR.out.below hb)
 replace hb0:=hb0.trans (hb.mono hb0.size)
 clear hb k0 k1
 go_wp2_with fail
 refine (fOddV hu3 hOB.out _).mono ?_
 rintro e w5 ⟨rfl,hb⟩
 replace hR:=Lib.hid (hR.out.below hb)
 replace hb0:=hb0.trans (hb.mono hb0.size)
 clear hb
 have hyl:=rb31 (n:=yn) (by rw [hyn.out];exact Nat.mod_lt _ Fe.P_pos)
 obtain ⟨B31,hB31⟩:∃ B31,B31=Dg.rb yn 31:=⟨_,rfl⟩
 rw [← hB31] at hyl
 have c31:=hR.out.cell 31 (by decide)
 rw [← hB31] at c31
 have hRf:=fun i=>hR.out.frozen i
 replace hB31:=Lib.hid hB31
 have hor:bits .or .u8 B31 128=B31+128:=or128 hyl.1 hyl.2
 cases OB
 ·go_wp2
  go_returns
  refine ⟨g,hgw,rfl,hR.out.congr (fun i hi=>?_),hb0⟩
  have h0:¬ xn % 2=1:=of_decide_eq_false hOB.out
  unfold ptB
  by_cases h31:i=31
  ·subst h31;rw [if_pos rfl,if_neg h0,Int.add_zero]
  rw [if_neg h31]
 have hglt:=hR.out.lt
 go_wp2
 go_returns
 have hS:=hR.out.set_ 31 (by decide) (B31+128)
 refine ⟨g,hgw,rfl,hS.congr (fun i hi=>?_),?_⟩
 ·have h0:xn % 2=1:=of_decide_eq_true hOB.out
  unfold ptB
  by_cases h31:i=31
  ·subst h31;rw [if_pos rfl,if_pos rfl,if_pos h0,hB31.out]
  rw [if_neg h31,if_neg h31]
 exact hb0.setCell (by show w.heap.size≤g;exact hgw) _
set_option maxRecDepth 20000 in
set_option maxHeartbeats 8000000 in
theorem neg4_c {x1 y1 z1 t1:Fe.E} {a b c d:Nat} (hx1:El x1 a) (hy1:El y1 b) (hz1:El z1 c) (ht1:El t1 d) (w:World):Calls Tryz.prog 167 #[.agg #[.int .u64 x1.a0,.int .u64 x1.a1,.int .u64 x1.a2,.int .u64 x1.a3,.int .u64 x1.a4,.int .u64 y1.a0,.int .u64 y1.a1,.int .u64 y1.a2,.int .u64 y1.a3,.int .u64 y1.a4,.int .u64 z1.a0,.int .u64 z1.a1,.int .u64 z1.a2,.int .u64 z1.a3,.int .u64 z1.a4,.int .u64 t1.a0,.int .u64 t1.a1,.int .u64 t1.a2,.int .u64 t1.a3,.int .u64 t1.a4]] w (PostP ((Fe.P-a) % Fe.P) b c ((Fe.P-d) % Fe.P) w):=by
 go_enter Tryz.func167,Tryz.ntmps167
 go_wp2_with fail
 refine at_world (fun W0 hW=>?_)
 have k0:Blk W0 (w.heap.size) 204 #[.int .u64 x1.a0,.int .u64 x1.a1,.int .u64 x1.a2,.int .u64 x1.a3,.int .u64 x1.a4,.int .u64 y1.a0,.int .u64 y1.a1,.int .u64 y1.a2,.int .u64 y1.a3,.int .u64 y1.a4,.int .u64 z1.a0,.int .u64 z1.a1,.int .u64 z1.a2,.int .u64 z1.a3,.int .u64 z1.a4,.int .u64 t1.a0,.int .u64 t1.a1,.int .u64 t1.a2,.int .u64 t1.a3,.int .u64 t1.a4]:=by rw [hW];exact (Blk.new _ _ _).alloc _
 have k1:Blk W0 (w.heap.size+1) 204 #[.int .u64 0,.int .u64 0,.int .u64 0,.int .u64 0,.int .u64 0,.int .u64 0,.int .u64 0,.int .u64 0,.int .u64 0,.int .u64 0,.int .u64 0,.int .u64 0,.int .u64 0,.int .u64 0,.int .u64 0,.int .u64 0,.int .u64 0,.int .u64 0,.int .u64 0,.int .u64 0]:=by rw [hW];exact blk_at (by simp) (Blk.new _ _ _)
 have hb0:Below w.heap.size w W0:=by rw [hW];go_grown
 clear hW
 obtain ⟨G1,hG1⟩:∃ G1,G1=w.heap.size+1:=⟨_,rfl⟩
 rw [← hG1] at k1 ⊢
 obtain ⟨G0,hG0⟩:∃ G0,G0=w.heap.size:=⟨_,rfl⟩
 rw [← hG0] at k0 ⊢
 have lo_G0:w.heap.size≤G0:=by omega
 have lo_G1:w.heap.size≤G1:=by omega
 have ne_G0_G1:G0≠G1:=by omega
 clear hG0 hG1
 have hSf:∀ w',Below W0.heap.size W0 w'→(fun w'=>w'.cell? ⟨G0,0,none⟩=some (.int .u64 x1.a0)∧w'.cell? ⟨G0,1,none⟩=some (.int .u64 x1.a1)∧w'.cell? ⟨G0,2,none⟩=some (.int .u64 x1.a2)∧w'.cell? ⟨G0,3,none⟩=some (.int .u64 x1.a3)∧w'.cell? ⟨G0,4,none⟩=some (.int .u64 x1.a4)∧w'.cell? ⟨G0,5,none⟩=some (.int .u64 y1.a0)∧w'.cell? ⟨G0,6,none⟩=some (.int .u64 y1.a1)∧w'.cell? ⟨G0,7,none⟩=some (.int .u64 y1.a2)∧w'.cell? ⟨G0,8,none⟩=some (.int .u64 y1.a3)∧w'.cell? ⟨G0,9,none⟩=some (.int .u64 y1.a4)∧w'.cell? ⟨G0,10,none⟩=some (.int .u64 z1.a0)∧w'.cell? ⟨G0,11,none⟩=some (.int .u64 z1.a1)∧w'.cell? ⟨G0,12,none⟩=some (.int .u64 z1.a2)∧w'.cell? ⟨G0,13,none⟩=some (.int .u64 z1.a3)∧w'.cell? ⟨G0,14,none⟩=some (.int .u64 z1.a4)∧w'.cell? ⟨G0,15,none⟩=some (.int .u64 t1.a0)∧w'.cell? ⟨G0,16,none⟩=some (.int .u64 t1.a1)∧w'.cell? ⟨G0,17,none⟩=some (.int .u64 t1.a2)∧w'.cell? ⟨G0,18,none⟩=some (.int .u64 t1.a3)∧w'.cell? ⟨G0,19,none⟩=some (.int .u64 t1.a4)) w':=fun w' hb=>by have k0:=k0.below hb;exact ⟨k0.cell 0,k0.cell 1,k0.cell 2,k0.cell 3,k0.cell 4,k0.cell 5,k0.cell 6,k0.cell 7,k0.cell 8,k0.cell 9,k0.cell 10,k0.cell 11,k0.cell 12,k0.cell 13,k0.cell 14,k0.cell 15,k0.cell 16,k0.cell 17,k0.cell 18,k0.cell 19⟩
 have hFf:∀ w',Below W0.heap.size W0 w'→∀ j,w'.frozen? ⟨G0,j,none⟩=false:=fun w' hb j=>(k0.below hb).frozen j
 replace hSf:=Lib.hid hSf
 replace hFf:=Lib.hid hFf
 have c0:=(Below.refl W0.heap.size W0).drew
 obtain ⟨q0,q1,q2,q3,q4,q5,q6,q7,q8,q9,q10,q11,q12,q13,q14,q15,q16,q17,q18,q19⟩:=hSf.out _ c0
 go_region_with (first | (go_at_call 258;refine (fNeg hx1 _).mono ?_;rintro o1 w1 ⟨u1,rfl,hu1,hb1⟩;have c1:=c0.trans (hb1.mono c0.size);clear q0 q1 q2 q3 q4 q5 q6 q7 q8 q9 q10 q11 q12 q13 q14 q15 q16 q17 q18 q19 hx1 hb1;obtain ⟨q0,q1,q2,q3,q4,q5,q6,q7,q8,q9,q10,q11,q12,q13,q14,q15,q16,q17,q18,q19⟩:=hSf.out _ c1) | (go_at_call 258;refine (fNeg ht1 _).mono ?_;rintro o2 w2 ⟨u2,rfl,hu2,hb2⟩;have c2:=c1.trans (hb2.mono c1.size);clear q0 q1 q2 q3 q4 q5 q6 q7 q8 q9 q10 q11 q12 q13 q14 q15 q16 q17 q18 q19 ht1 hb2;obtain ⟨q0,q1,q2,q3,q4,q5,q6,q7,q8,q9,q10,q11,q12,q13,q14,q15,q16,q17,q18,q19⟩:=hSf.out _ c2;have hF:=hFf.out _ c2))
 all_goals
  clear q0 q1 q2 q3 q4 q5 q6 q7 q8 q9 q10 q11 q12 q13 q14 q15 q16 q17 q18 q19 hF hSf hFf c0 c1
  have m0:=k0.below c2
  have n0:=k1.below c2
  have l0:=hb0.trans (c2.mono hb0.size)
  obtain ⟨V0,hV⟩:∃ V,V=(World.setCell w2 ⟨G0,0,none⟩ (.int .u64 u1.a0)):=⟨_,rfl⟩
  rw [← hV]
  have m1:Blk V0 G0 204 #[.int .u64 u1.a0,.int .u64 x1.a1,.int .u64 x1.a2,.int .u64 x1.a3,.int .u64 x1.a4,.int .u64 y1.a0,.int .u64 y1.a1,.int .u64 y1.a2,.int .u64 y1.a3,.int .u64 y1.a4,.int .u64 z1.a0,.int .u64 z1.a1,.int .u64 z1.a2,.int .u64 z1.a3,.int .u64 z1.a4,.int .u64 t1.a0,.int .u64 t1.a1,.int .u64 t1.a2,.int .u64 t1.a3,.int .u64 t1.a4]:=by rw [hV];exact m0.set_ 0 (.int .u64 u1.a0)
  have n1:Blk V0 G1 204 #[.int .u64 0,.int .u64 0,.int .u64 0,.int .u64 0,.int .u64 0,.int .u64 0,.int .u64 0,.int .u64 0,.int .u64 0,.int .u64 0,.int .u64 0,.int .u64 0,.int .u64 0,.int .u64 0,.int .u64 0,.int .u64 0,.int .u64 0,.int .u64 0,.int .u64 0,.int .u64 0]:=by rw [hV];exact n0.far (p:=⟨G0,0,none⟩) ne_G0_G1.symm (.int .u64 u1.a0)
  have l1:Below w.heap.size w V0:=by rw [hV];exact l0.setCell (by show w.heap.size≤G0;exact lo_G0) _
  clear hV m0 n0 l0
  obtain ⟨V1,hV⟩:∃ V,V=(World.setCell V0 ⟨G0,1,none⟩ (.int .u64 u1.a1)):=⟨_,rfl⟩
  rw [← hV]
  have m2:Blk V1 G0 204 #[.int .u64 u1.a0,.int .u64 u1.a1,.int .u64 x1.a2,.int .u64 x1.a3,.int .u64 x1.a4,.int .u64 y1.a0,.int .u64 y1.a1,.int .u64 y1.a2,.int .u64 y1.a3,.int .u64 y1.a4,.int .u64 z1.a0,.int .u64 z1.a1,.int .u64 z1.a2,.int .u64 z1.a3,.int .u64 z1.a4,.int .u64 t1.a0,.int .u64 t1.a1,.int .u64 t1.a2,.int .u64 t1.a3,.int .u64 t1.a4]:=by rw [hV];exact m1.set_ 1 (.int .u64 u1.a1)
  have n2:Blk V1 G1 204 #[.int .u64 0,.int .u64 0,.int .u64 0,.int .u64 0,.int .u64 0,.int .u64 0,.int .u64 0,.int .u64 0,.int .u64 0,.int .u64 0,.int .u64 0,.int .u64 0,.int .u64 0,.int .u64 0,.int .u64 0,.int .u64 0,.int .u64 0,.int .u64 0,.int .u64 0,.int .u64 0]:=by rw [hV];exact n1.far (p:=⟨G0,1,none⟩) ne_G0_G1.symm (.int .u64 u1.a1)
  have l2:Below w.heap.size w V1:=by rw [hV];exact l1.setCell (by show w.heap.size≤G0;exact lo_G0) _
  clear hV m1 n1 l1
  obtain ⟨V2,hV⟩:∃ V,V=(World.setCell V1 ⟨G0,2,none⟩ (.int .u64 u1.a2)):=⟨_,rfl⟩
  rw [← hV]
  have m3:Blk V2 G0 204 #[.int .u64 u1.a0,.int .u64 u1.a1,.int .u64 u1.a2,.int .u64 x1.a3,.int .u64 x1.a4,.int .u64 y1.a0,.int .u64 y1.a1,.int .u64 y1.a2,.int .u64 y1.a3,.int .u64 y1.a4,.int .u64 z1.a0,.int .u64 z1.a1,.int .u64 z1.a2,.int .u64 z1.a3,.int .u64 z1.a4,.int .u64 t1.a0,.int .u64 t1.a1,.int .u64 t1.a2,.int .u64 t1.a3,.int .u64 t1.a4]:=by rw [hV];exact m2.set_ 2 (.int .u64 u1.a2)
  have n3:Blk V2 G1 204 #[.int .u64 0,.int .u64 0,.int .u64 0,.int .u64 0,.int .u64 0,.int .u64 0,.int .u64 0,.int .u64 0,.int .u64 0,.int .u64 0,.int .u64 0,.int .u64 0,.int .u64 0,.int .u64 0,.int .u64 0,.int .u64 0,.int .u64 0,.int .u64 0,.int .u64 0,.int .u64 0]:=by rw [hV];exact n2.far (p:=⟨G0,2,none⟩) ne_G0_G1.symm (.int .u64 u1.a2)
  have l3:Below w.heap.size w V2:=by rw [hV];exact l2.setCell (by show w.heap.size≤G0;exact lo_G0) _
  clear hV m2 n2 l2
  obtain ⟨V3,hV⟩:∃ V,V=(World.setCell V2 ⟨G0,3,none⟩ (.int .u64 u1.a3)):=⟨_,rfl⟩
  rw [← hV]
  have m4:Blk V3 G0 204 #[.int .u64 u1.a0,.int .u64 u1.a1,.int .u64 u1.a2,.int .u64 u1.a3,.int .u64 x1.a4,.int .u64 y1.a0,.int .u64 y1.a1,.int .u64 y1.a2,.int .u64 y1.a3,.int .u64 y1.a4,.int .u64 z1.a0,.int .u64 z1.a1,.int .u64 z1.a2,.int .u64 z1.a3,.int .u64 z1.a4,.int .u64 t1.a0,.int .u64 t1.a1,.int .u64 t1.a2,.int .u64 t1.a3,.int .u64 t1.a4]:=by rw [hV];exact m3.set_ 3 (.int .u64 u1.a3)
  have n4:Blk V3 G1 204 #[.int .u64 0,.int .u64 0,.int .u64 0,.int .u64 0,.int .u64 0,.int .u64 0,.int .u64 0,.int .u64 0,.int .u64 0,.int .u64 0,.int .u64 0,.int .u64 0,.int .u64 0,.int .u64 0,.int .u64 0,.int .u64 0,.int .u64 0,.int .u64 0,.int .u64 0,.int .u64 0]:=by rw [hV];exact n3.far (p:=⟨G0,3,none⟩) ne_G0_G1.symm (.int .u64 u1.a3)
  have l4:Below w.heap.size w V3:=by rw [hV];exact l3.setCell (by show w.heap.size≤G0;exact lo_G0) _
  clear hV m3 n3 l3
  obtain ⟨V4,hV⟩:∃ V,V=(World.setCell V3 ⟨G0,4,none⟩ (.int .u64 u1.a4)):=⟨_,rfl⟩
  rw [← hV]
  have m5:Blk V4 G0 204 #[.int .u64 u1.a0,.int .u64 u1.a1,.int .u64 u1.a2,.int .u64 u1.a3,.int .u64 u1.a4,.int .u64 y1.a0,.int .u64 y1.a1,.int .u64 y1.a2,.int .u64 y1.a3,.int .u64 y1.a4,.int .u64 z1.a0,.int .u64 z1.a1,.int .u64 z1.a2,.int .u64 z1.a3,.int .u64 z1.a4,.int .u64 t1.a0,.int .u64 t1.a1,.int .u64 t1.a2,.int .u64 t1.a3,.int .u64 t1.a4]:=by rw [hV];exact m4.set_ 4 (.int .u64 u1.a4)
  have n5:Blk V4 G1 204 #[.int .u64 0,.int .u64 0,.int .u64 0,.int .u64 0,.int .u64 0,.int .u64 0,.int .u64 0,.int .u64 0,.int .u64 0,.int .u64 0,.int .u64 0,.int .u64 0,.int .u64 0,.int .u64 0,.int .u64 0,.int .u64 0,.int .u64 0,.int .u64 0,.int .u64 0,.int .u64 0]:=by rw [hV];exact n4.far (p:=⟨G0,4,none⟩) ne_G0_G1.symm (.int .u64 u1.a4)
  have l5:Below w.heap.size w V4:=by rw [hV];exact l4.setCell (by show w.heap.size≤G0;exact lo_G0) _
  clear hV m4 n4 l4
  obtain ⟨V5,hV⟩:∃ V,V=(World.setCell V4 ⟨G0,15,none⟩ (.int .u64 u2.a0)):=⟨_,rfl⟩
  rw [← hV]
  have m6:Blk V5 G0 204 #[.int .u64 u1.a0,.int .u64 u1.a1,.int .u64 u1.a2,.int .u64 u1.a3,.int .u64 u1.a4,.int .u64 y1.a0,.int .u64 y1.a1,.int .u64 y1.a2,.int .u64 y1.a3,.int .u64 y1.a4,.int .u64 z1.a0,.int .u64 z1.a1,.int .u64 z1.a2,.int .u64 z1.a3,.int .u64 z1.a4,.int .u64 u2.a0,.int .u64 t1.a1,.int .u64 t1.a2,.int .u64 t1.a3,.int .u64 t1.a4]:=by rw [hV];exact m5.set_ 15 (.int .u64 u2.a0)
  have n6:Blk V5 G1 204 #[.int .u64 0,.int .u64 0,.int .u64 0,.int .u64 0,.int .u64 0,.int .u64 0,.int .u64 0,.int .u64 0,.int .u64 0,.int .u64 0,.int .u64 0,.int .u64 0,.int .u64 0,.int .u64 0,.int .u64 0,.int .u64 0,.int .u64 0,.int .u64 0,.int .u64 0,.int .u64 0]:=by rw [hV];exact n5.far (p:=⟨G0,15,none⟩) ne_G0_G1.symm (.int .u64 u2.a0)
  have l6:Below w.heap.size w V5:=by rw [hV];exact l5.setCell (by show w.heap.size≤G0;exact lo_G0) _
  clear hV m5 n5 l5
  obtain ⟨V6,hV⟩:∃ V,V=(World.setCell V5 ⟨G0,16,none⟩ (.int .u64 u2.a1)):=⟨_,rfl⟩
  rw [← hV]
  have m7:Blk V6 G0 204 #[.int .u64 u1.a0,.int .u64 u1.a1,.int .u64 u1.a2,.int .u64 u1.a3,.int .u64 u1.a4,.int .u64 y1.a0,.int .u64 y1.a1,.int .u64 y1.a2,.int .u64 y1.a3,.int .u64 y1.a4,.int .u64 z1.a0,.int .u64 z1.a1,.int .u64 z1.a2,.int .u64 z1.a3,.int .u64 z1.a4,.int .u64 u2.a0,.int .u64 u2.a1,.int .u64 t1.a2,.int .u64 t1.a3,.int .u64 t1.a4]:=by rw [hV];exact m6.set_ 16 (.int .u64 u2.a1)
  have n7:Blk V6 G1 204 #[.int .u64 0,.int .u64 0,.int .u64 0,.int .u64 0,.int .u64 0,.int .u64 0,.int .u64 0,.int .u64 0,.int .u64 0,.int .u64 0,.int .u64 0,.int .u64 0,.int .u64 0,.int .u64 0,.int .u64 0,.int .u64 0,.int .u64 0,.int .u64 0,.int .u64 0,.int .u64 0]:=by rw [hV];exact n6.far (p:=⟨G0,16,none⟩) ne_G0_G1.symm (.int .u64 u2.a1)
  have l7:Below w.heap.size w V6:=by rw [hV];exact l6.setCell (by show w.heap.size≤G0;exact lo_G0) _
  clear hV m6 n6 l6
  obtain ⟨V7,hV⟩:∃ V,V=(World.setCell V6 ⟨G0,17,none⟩ (.int .u64 u2.a2)):=⟨_,rfl⟩
  rw [← hV]
  have m8:Blk V7 G0 204 #[.int .u64 u1.a0,.int .u64 u1.a1,.int .u64 u1.a2,.int .u64 u1.a3,.int .u64 u1.a4,.int .u64 y1.a0,.int .u64 y1.a1,.int .u64 y1.a2,.int .u64 y1.a3,.int .u64 y1.a4,.int .u64 z1.a0,.int .u64 z1.a1,.int .u64 z1.a2,.int .u64 z1.a3,.int .u64 z1.a4,.int .u64 u2.a0,.int .u64 u2.a1,.int .u64 u2.a2,.int .u64 t1.a3,.int .u64 t1.a4]:=by rw [hV];exact m7.set_ 17 (.int .u64 u2.a2)
  have n8:Blk V7 G1 204 #[.int .u64 0,.int .u64 0,.int .u64 0,.int .u64 0,.int .u64 0,.int .u64 0,.int .u64 0,.int .u64 0,.int .u64 0,.int .u64 0,.int .u64 0,.int .u64 0,.int .u64 0,.int .u64 0,.int .u64 0,.int .u64 0,.int .u64 0,.int .u64 0,.int .u64 0,.int .u64 0]:=by rw [hV];exact n7.far (p:=⟨G0,17,none⟩) ne_G0_G1.symm (.int .u64 u2.a2)
  have l8:Below w.heap.size w V7:=by rw [hV];exact l7.setCell (by show w.heap.size≤G0;exact lo_G0) _
  clear hV m7 n7 l7
  obtain ⟨V8,hV⟩:∃ V,V=(World.setCell V7 ⟨G0,18,none⟩ (.int .u64 u2.a3)):=⟨_,rfl⟩
  rw [← hV]
  have m9:Blk V8 G0 204 #[.int .u64 u1.a0,.int .u64 u1.a1,.int .u64 u1.a2,.int .u64 u1.a3,.int .u64 u1.a4,.int .u64 y1.a0,.int .u64 y1.a1,.int .u64 y1.a2,.int .u64 y1.a3,.int .u64 y1.a4,.int .u64 z1.a0,.int .u64 z1.a1,.int .u64 z1.a2,.int .u64 z1.a3,.int .u64 z1.a4,.int .u64 u2.a0,.int .u64 u2.a1,.int .u64 u2.a2,.int .u64 u2.a3,.int .u64 t1.a4]:=by rw [hV];exact m8.set_ 18 (.int .u64 u2.a3)
  have n9:Blk V8 G1 204 #[.int .u64 0,.int .u64 0,.int .u64 0,.int .u64 0,.int .u64 0,.int .u64 0,.int .u64 0,.int .u64 0,.int .u64 0,.int .u64 0,.int .u64 0,.int .u64 0,.int .u64 0,.int .u64 0,.int .u64 0,.int .u64 0,.int .u64 0,.int .u64 0,.int .u64 0,.int .u64 0]:=by rw [hV];exact n8.far (p:=⟨G0,18,none⟩) ne_G0_G1.symm (.int .u64 u2.a3)
  have l9:Below w.heap.size w V8:=by rw [hV];exact l8.setCell (by show w.heap.size≤G0;exact lo_G0) _
  clear hV m8 n8 l8
  obtain ⟨V9,hV⟩:∃ V,V=(World.setCell V8 ⟨G0,19,none⟩ (.int .u64 u2.a4)):=⟨_,rfl⟩
  rw [← hV]
  have m10:Blk V9 G0 204 #[.int .u64 u1.a0,.int .u64 u1.a1,.int .u64 u1.a2,.int .u64 u1.a3,.int .u64 u1.a4,.int .u64 y1.a0,.int .u64 y1.a1,.int .u64 y1.a2,.int .u64 y1.a3,.int .u64 y1.a4,.int .u64 z1.a0,.int .u64 z1.a1,.int .u64 z1.a2,.int .u64 z1.a3,.int .u64 z1.a4,.int .u64 u2.a0,.int .u64 u2.a1,.int .u64 u2.a2,.int .u64 u2.a3,.int .u64 u2.a4]:=by rw [hV];exact m9.set_ 19 (.int .u64 u2.a4)
  have n10:Blk V9 G1 204 #[.int .u64 0,.int .u64 0,.int .u64 0,.int .u64 0,.int .u64 0,.int .u64 0,.int .u64 0,.int .u64 0,.int .u64 0,.int .u64 0,.int .u64 0,.int .u64 0,.int .u64 0,.int .u64 0,.int .u64 0,.int .u64 0,.int .u64 0,.int .u64 0,.int .u64 0,.int .u64 0]:=by rw [hV];exact n9.far (p:=⟨G0,19,none⟩) ne_G0_G1.symm (.int .u64 u2.a4)
  have l10:Below w.heap.size w V9:=by rw [hV];exact l9.setCell (by show w.heap.size≤G0;exact lo_G0) _
  clear hV m9 n9 l9
  have k5:=m10
  have k6:=n10
  have hb3:=l10
  clear c2 k0 k1 hb0 m10 n10 l10
  go_wp2_with (first | (refine ldPt rfl rfl rfl k5 rfl ?_;clear k5) | (refine stPt rfl rfl rfl rfl k6 rfl rfl (by kernel_rfl) ?_;intro w5 k7 hgr hsz))
  exact retPt rfl rfl k7 rfl rfl ⟨_,_,_,_,rfl,hu1,hy1,hz1,hu2,hb3.grown hgr hb3.size (fun k hk=>by injection hk with hk;omega)⟩
end Go.Proofs.YtnopjabcdloepaaGreatDoor
namespace Go.Proofs.YtnopjabcdloepaaGreatDoor
open Go.RowKit
def pcs (x y z t:Fe.E):Array Value:=#[.int .u64 x.a0,.int .u64 x.a1,.int .u64 x.a2,.int .u64 x.a3,.int .u64 x.a4,.int .u64 y.a0,.int .u64 y.a1,.int .u64 y.a2,.int .u64 y.a3,.int .u64 y.a4,.int .u64 z.a0,.int .u64 z.a1,.int .u64 z.a2,.int .u64 z.a3,.int .u64 z.a4,.int .u64 t.a0,.int .u64 t.a1,.int .u64 t.a2,.int .u64 t.a3,.int .u64 t.a4]
def PtE (X Y Z T:Fe.E) (x y:Fin Fe.P):Prop:=∃ a b c d,El X a∧El Y b∧El Z c∧El T d∧Fe.PA a b c d x y
def PtIs (v:Value) (x y:Fin Fe.P):Prop:=∃ X Y Z T,v=.agg (pcs X Y Z T)∧PtE X Y Z T x y
def PostQ (x y:Fin Fe.P) (w:World) (e:Ending) (w':World):Prop:=∃ X Y Z T,e=.returned (.agg (pcs X Y Z T))∧PtE X Y Z T x y∧Below w.heap.size w w'
def SumQ (w:World) (g:Nat) (x y:Fin Fe.P):Prop:=∃ X Y Z T,Blk w g 288 (pcs X Y Z T)∧PtE X Y Z T x y
theorem SumQ.below {w w':World} {g:Nat} {x y:Fin Fe.P} (h:SumQ w g x y) (hb:Below w.heap.size w w'):SumQ w' g x y:=by
 obtain ⟨X,Y,Z,T,hk,h⟩:=h
 exact ⟨X,Y,Z,T,hk.below hb,h⟩
theorem SumQ.grown {w w':World} {g:Nat} {x y:Fin Fe.P} {row:Option Nat} (h:SumQ w g x y) (hb:w.grownBy w' row) (hg:some g≠row):SumQ w' g x y:=by
 obtain ⟨X,Y,Z,T,hk,h⟩:=h
 exact ⟨X,Y,Z,T,hk.grown hb hg,h⟩
theorem SumQ.lt {w:World} {g:Nat} {x y:Fin Fe.P} (h:SumQ w g x y):g<w.heap.size:=h.elim fun _ h=>h.elim fun _ h=>h.elim fun _ h=>h.elim fun _ h=>h.1.lt
def PostTg (g:Nat) (x y:Fin Fe.P) (w:World) (e:Ending) (w':World):Prop:=e=.returned (.tuple #[])∧SumQ w' g x y∧w.grownBy w' (some g)
theorem tadd_c {X Y Z T:Fe.E} {x1 y1 x2 y2:Fin Fe.P} (g:Nat) (w:World) (hs:SumQ w g x1 y1) (hp:PtE X Y Z T x2 y2) (hCv:CvP w) :
  Calls Tryz.prog 263 #[.pointer (some ⟨g,0,none⟩),.agg (pcs X Y Z T)] w (PostTg g (Fe.ax x1 y1 x2 y2) (Fe.ay x1 y1 x2 y2) w):=by
 obtain ⟨X1,Y1,Z1,T1,hk,a,b,c,d,hX,hY,hZ,hT,hA⟩:=hs
 obtain ⟨a2,b2,c2,d2,hX2,hY2,hZ2,hT2,hA2⟩:=hp
 refine (sadd_c hX hY hZ hT hX2 hY2 hZ2 hT2 g w hk hCv).mono ?_
 rintro e w' ⟨he,⟨X3,Y3,Z3,T3,hk3,hX3,hY3,hZ3,hT3⟩,hg⟩
 exact ⟨he,⟨X3,Y3,Z3,T3,hk3,_,_,_,_,hX3,hY3,hZ3,hT3,Fe.pa_add hA hA2⟩,hg⟩
theorem tdbl_c {x1 y1:Fin Fe.P} (g:Nat) (w:World) (hs:SumQ w g x1 y1) :
  Calls Tryz.prog 262 #[.pointer (some ⟨g,0,none⟩)] w (PostTg g (Fe.ax x1 y1 x1 y1) (Fe.ay x1 y1 x1 y1) w):=by
 obtain ⟨X1,Y1,Z1,T1,hk,a,b,c,d,hX,hY,hZ,hT,hA⟩:=hs
 refine (sdbl_c hX hY hZ g w hk).mono ?_
 rintro e w' ⟨he,⟨X3,Y3,Z3,T3,hk3,hX3,hY3,hZ3,hT3⟩,hg⟩
 exact ⟨he,⟨X3,Y3,Z3,T3,hk3,_,_,_,_,hX3,hY3,hZ3,hT3,Fe.pa_dbl hA⟩,hg⟩
theorem pneg_c {X Y Z T:Fe.E} {x y:Fin Fe.P} (w:World) (hp:PtE X Y Z T x y):Calls Tryz.prog 167 #[.agg (pcs X Y Z T)] w (PostQ (-x) y w):=by
 obtain ⟨a,b,c,d,hX,hY,hZ,hT,hA⟩:=hp
 refine (neg4_c hX hY hZ hT w).mono ?_
 rintro e w' ⟨X3,Y3,Z3,T3,he,hX3,hY3,hZ3,hT3,hb⟩
 exact ⟨X3,Y3,Z3,T3,he,⟨_,_,_,_,hX3,hY3,hZ3,hT3,Fe.pa_neg hA⟩,hb⟩
theorem ptE_zero:PtE ⟨0,0,0,0,0⟩ ⟨1,0,0,0,0⟩ ⟨1,0,0,0,0⟩ ⟨0,0,0,0,0⟩ 0 1:=⟨_,_,_,_,el_zero,el_one,el_one,el_zero,Fe.pa_zero⟩
theorem pput_c {X Y Z T:Fe.E} {x y:Fin Fe.P} (w:World) (hp:PtE X Y Z T x y):Calls Tryz.prog 212 #[.agg (pcs X Y Z T)] w (fun e w'=>∃ g,w.heap.size≤g∧e=.returned (.slice (some ⟨g,0,none⟩) 32 32)∧RowB w' g 32 32 (fun j=>ptB y.val x.val j)∧Below w.heap.size w w'):=by
 obtain ⟨a,b,c,d,hX,hY,hZ,hT,hA⟩:=hp
 have:=put4_c (t1:=T) hX hY hZ w
 rw [Fe.pa_x hA,Fe.pa_y hA] at this
 exact this
theorem pssame_c {X Y Z T X2 Y2 Z2 T2:Fe.E} {x y x2 y2:Fin Fe.P} (w:World) (hp:PtE X Y Z T x y) (hp2:PtE X2 Y2 Z2 T2 x2 y2):Calls Tryz.prog 164 #[.agg (pcs X Y Z T),.agg (pcs X2 Y2 Z2 T2)] w (PostV (.bool (decide (x=x2)&&decide (y=y2))) w):=by
 obtain ⟨a,b,c,d,hX,hY,hZ,hT,hA⟩:=hp
 obtain ⟨a2,b2,c2,d2,hX2,hY2,hZ2,hT2,hA2⟩:=hp2
 have:=psame_c (t1:=T) (t2:=T2) hX hY hZ hX2 hY2 hZ2 w
 rw [show sameP a b c a2 b2 c2=_ from Fe.pa_same hA hA2] at this
 exact this
section
variable {ops:Array Oper} {rest:List Oper} {o:Oper} {a:Act} {w:World} {Q:Exit→Act→World→Prop}
end
theorem sm_size:(Tryz.prog.info? 288).map (·.size)=some 20:=by kernel_rfl
theorem pcs_one (X Y Z T:Fe.E):(pcs X Y Z T).all (·.oneCell')=true:=by kernel_rfl
section
variable {ops:Array Oper} {rest:List Oper} {o:Oper} {a:Act} {w:World} {Q:Exit→Act→World→Prop}
theorem stSm (hgd:o.guard=none) {x y:Operand} (ho:o.op=.store 288 x y) {g:Nat} {X Y Z T:Fe.E} {old:Array Value} {ty:TypeId} (hx:a.eval x=.pointer (some ⟨g,0,none⟩)) (hy:a.eval y=.agg (pcs X Y Z T)) (hg:Blk w g ty old) (hs:old.size=20)
  (h:∀ w',Blk w' g ty (pcs X Y Z T)→w.grownBy w' (some g)→w'.heap.size=w.heap.size→wpList Tryz.prog ops Q rest (a.put o.dst undef) w'):wpList Tryz.prog ops Q (o::rest) a w :=
 wpList_store_blk hgd 288 x y ho g ty old (pcs X Y Z T) hx hy hg hs sm_size (pcs_one _ _ _ _) h
end
def PtsAt (w:World) (g n:Nat) (px py:Nat→Fin Fe.P):Prop:=∀ i,i<n→∃ X Y Z T,(∀ j,j<20→w.cell? ⟨g,i*20+j,none⟩=(pcs X Y Z T)[j]?)∧PtE X Y Z T (px i) (py i)
theorem PtsAt.below {w w':World} {g n:Nat} {px py:Nat→Fin Fe.P} (h:PtsAt w g n px py) (hg:g<w.heap.size) (hb:Below w.heap.size w w'):PtsAt w' g n px py:=fun i hi=>by
 obtain ⟨X,Y,Z,T,hc,hp⟩:=h i hi
 exact ⟨X,Y,Z,T,fun j hj=>(hb.cell (p:=⟨g,i*20+j,none⟩) hg).trans (hc j hj),hp⟩
end Go.Proofs.YtnopjabcdloepaaGreatDoor
namespace Go.Proofs.YtnopjabcdloepaaGreatDoor
open Go.RowKit Go.Shelf
attribute [local go_sem] Oper.semAt_some
def KpB (Bs g:Nat) (W W':World):Prop:=(∀ j,W'.cell? ⟨g,j,none⟩=W.cell? ⟨g,j,none⟩)∧W'.cell? ⟨Bs,0,none⟩=W.cell? ⟨Bs,0,none⟩
theorem KpB.refl (Bs g:Nat) (W:World):KpB Bs g W W:=⟨fun _=>rfl,rfl⟩
theorem KpB.trans {Bs g:Nat} {A B C:World} (h:KpB Bs g A B) (k:KpB Bs g B C):KpB Bs g A C:=⟨fun j=>(k.1 j).trans (h.1 j),k.2.trans h.2⟩
theorem back_c (p:Option Addr) (m c:Nat) (w:World):Calls Tryz.prog 304 #[.slice p m c] w fun e w'=>e=.returned (.func (.func 344) #[] #[.pointer (some ⟨w.heap.size,0,none⟩)])∧w'=w.alloc (.cells #[.slice p m c] 285):=by
 go_enter Tryz.func304,Tryz.ntmps304
 go_wp2
 go_returns
 exact ⟨rfl,rfl⟩
set_option maxRecDepth 100000 in
set_option maxHeartbeats 2000000 in
theorem back1_in (F:Fence) (n:Nat) (hf:F.fn 344) (hro:F.round=none) (hn:1≤n) (l Bs g m c:Nat) (b:Nat→Bool) (hm:m≤1000000) (J Jx:List (Nat × Bool)→World→Prop)
  (hY:∀ pre x W,J pre W→pre.length<m→YieldAt F (n-1) Tryz.prog l #[.int .i64 (x.1:Int),.bool x.2] W fun e W' =>
   (e=.returned (.bool true)∧J (pre++[x]) W'∧KpB Bs g W W')∨(e=.returned (.bool false)∧Jx (pre++[x]) W'))
  (W:World) (hBs:W.cell? ⟨Bs,0,none⟩=some (.slice (some ⟨g,0,none⟩) m c)) (hc:∀ j,j<m→W.cell? ⟨g,j,none⟩=some (.bool (b j))) (h0:J [] W) :
  CallsIn F n Tryz.prog 344 #[.func (.yield l) #[] #[],.pointer (some ⟨Bs,0,none⟩)] W fun e W'=>(∃ v,e=.returned v) ∧
   ((∃ ys,ys=upto (fun i=>(m-1-i,b (m-1-i))) m∧J ys W')∨(∃ pre,True∧Jx pre W')):=by
 replace hY:=Lib.hid hY
 replace hc:=Lib.hid hc
 refine callsIn_of_wp Tryz.func344 rfl hf ?_ hro
 simp only [Tryz.ntmps344,List.size_toArray,List.length_cons,List.length_nil,Nat.reduceAdd,Nat.reduceSub,Array.replicate_succ,Array.replicate_zero,List.push_toArray,List.append_toArray,List.nil_append,List.cons_append]
 gi_wp2
 gi_loopw [3] (fun i wr=>∃ k:Nat,k≤m∧i=.int .i64 ((m:Int)-1-k)∧J (upto (fun i=>(m-1-i,b (m-1-i))) k) wr∧KpB Bs g W wr)
  (fun i _=>(intOf i+1).toNat)
 case atStart=>exact ⟨0,Nat.zero_le _,by simp,h0,KpB.refl _ _ _⟩
 case round =>
  obtain ⟨k,hk,rfl,hJs,hnx⟩:=hrel
  have hq:wr.cell? ⟨Bs,0,none⟩=some (.slice (some ⟨g,0,none⟩) m c):=hnx.2.trans hBs
  by_cases hlt:k<m
  ·obtain ⟨j,hj⟩:∃ j,j=m-1-k:=⟨_,rfl⟩
   obtain ⟨fn,tmps,assign,body,hy,hR⟩:=hY.out _ (m-1-k,b (m-1-k)) wr hJs (by rw [upto_length];exact hlt)
   have hcx:wr.cell? ⟨g,j,none⟩=some (.bool (b j)):=(hnx.1 j).trans (hc.out _ (by omega))
   have hi:((m:Int)-1-k)=(j:Int):=by omega
   rw [← hj] at hy hR
   dsimp only at hy
   rw [hi]
   have hjm:(j:Int)<(m:Int):=by omega
   have hj0:(0:Int)≤(j:Int):=by omega
   replace hj:=Lib.hid hj
   replace hi:=Lib.hid hi
   gi_wp2
   refine hR.mono ?_
   rintro e W3 (⟨rfl,hJ3,hk3⟩ | ⟨rfl,hJx3⟩)
   ·gi_wp2
    go_roundw
    case rel=>exact ⟨k+1,by omega,by have:=hj.out;congr 1 <;> omega,by rw [upto_succ,← hj.out];exact hJ3,hnx.trans hk3⟩
    case measure=>have:=hj.out;first | (simp [intOf];done) | (simp [intOf];omega)
   gi_wp2
   refine bodyPost_ret (results_none rfl _ _ _) rfl ?_
   exact ⟨⟨_,rfl⟩,.inr ⟨_,trivial,hJx3⟩⟩
  obtain rfl:k=m:=by omega
  have hneg:((k:Int)-1-k) = -1:=by omega
  rw [hneg]
  gi_wp2
  go_end0
  exact ⟨⟨_,rfl⟩,.inl ⟨_,rfl,hJs⟩⟩
theorem back_stops (F:Fence) (n:Nat) (hf:F.fn 344) (hro:F.round=none) (hn:1≤n) (Bs g m c:Nat) (b:Nat→Bool) (hm:m≤1000000) (w:World) (hg:g<w.heap.size) (hB:Bs<w.heap.size)
  (hBs:w.cell? ⟨Bs,0,none⟩=some (.slice (some ⟨g,0,none⟩) m c)) (hc:∀ j,j<m→w.cell? ⟨g,j,none⟩=some (.bool (b j))) :
  SeqStopsK F n Tryz.prog 344 #[.pointer (some ⟨Bs,0,none⟩)] (fun x:Nat × Bool=>#[.int .i64 (x.1:Int),.bool x.2]) (KpB Bs g) (fun ys=>ys=upto (fun i=>(m-1-i,b (m-1-i))) m) (fun _=>True) m w:=fun l J Jx W hW _ _ hY h0 =>
 back1_in F n hf hro hn l Bs g m c b hm J Jx hY W ((hW.cell (p:=⟨Bs,0,none⟩) hB).trans hBs) (fun j hj=>(hW.cell (p:=⟨g,j,none⟩) hg).trans (hc j hj)) h0
theorem callsIn_at {F:Fence} {n:Nat} {P:Program} {f:FuncId} {args:Array Value} {W:World} {R:Ending→World→Prop} (h:∀ W0,W0=W→CallsIn F n P f args W0 R):CallsIn F n P f args W R:=h W rfl
theorem KpB.putObj {Bs g n₀ l:Nat} {W:World} {o o':Obj} (h1:g<n₀) (h2:Bs<n₀) (hl:n₀≤l) (h:W.heap[l]?=some o):KpB Bs g W (W.putObj l o'):=by
 have hlt:l<W.heap.size:=(Array.getElem?_eq_some_iff.1 h).1
 have hb:Below n₀ W (W.putObj l o'):=(Below.refl n₀ W).grown (grownBy_putObj' W l o') (by omega) (fun k e=>by cases e;exact hl)
 exact ⟨fun j=>hb.cell (p:=⟨g,j,none⟩) h1,hb.cell (p:=⟨Bs,0,none⟩) h2⟩
theorem KpB.grown {Bs g GS:Nat} {W W':World} (hg:W.grownBy W' (some GS)) (h1:g<W.heap.size) (h2:Bs<W.heap.size) (n1:g≠GS) (n2:Bs≠GS):KpB Bs g W W' :=
 ⟨fun j=>hg.cell_far ⟨g,j,none⟩ h1 (fun e=>n1 (Option.some.inj e)),hg.cell_far ⟨Bs,0,none⟩ h2 (fun e=>n2 (Option.some.inj e))⟩
section
variable {F:Fence} {n:Nat} {ops:Array Oper} {rest:List Oper} {o:Oper} {a:Act} {w:World} {Q:Exit→Act→World→Prop}
theorem inSt (hF:∀ f,F.fn f) (hgd:o.guard=none) (ty:TypeId) {x y:Operand} (ho:o.op=.store ty x y) {g:Nat} {t:TypeId} {old cells:Array Value} (hx:a.eval x=.pointer (some ⟨g,0,none⟩)) (hy:a.eval y=.agg cells) (hg:Blk w g t old) (hs:old.size=cells.size)
  (hi:(Tryz.prog.info? ty).map (·.size)=some cells.size) (h1:cells.all (·.oneCell')=true)
  (h:∀ w',Blk w' g t cells→w.grownBy w' (some g)→w'.heap.size=w.heap.size→wpListIn F n Tryz.prog ops Q rest (a.put o.dst undef) w'):wpListIn F n Tryz.prog ops Q (o::rest) a w:=by
 have hth:w.there g 0 cells.size:=fun j hj=>by
  rw [Nat.zero_add,hg.cell j,Array.getElem?_eq_getElem (by omega)]
  exact ⟨rfl,hg.frozen j⟩
 have hb:=blk_setCells (g:=g) (t:=t) old.toList 0 w [] (by simpa using hg) cells.toList (by simp [hs]) rfl
 have hsz:∀ (us:List Value) (o:Nat) (w:World),(w.setCells g o us).heap.size=w.heap.size:=by
  intro us
  induction us with
  | nil=>intro o w;rfl
  | cons u us ih=>intro o w;rw [World.setCells,ih];simp [World.setCell]
 refine wpListIn_plain hgd fun _ hK=>?_
 unfold Oper.wpIn
 rw [Oper.semAt_eq _ _ _ (fun c hc=>by rw [ho] at hc;cases hc)]
 refine ⟨fun f _=>hF f,?_⟩
 unfold execOp
 simp only [ho,hx,hy,Instr.storeAt,Instr.sureAddr,Sem.run_bind,Sem.run_pure,Result.andThen_ok,run_storeVar_mid w g 0 ty cells hth hi h1]
 exact hK _ _ (h _ (by simpa using hb) (grown_setCells g _ 0 w) (hsz _ _ _))
theorem inLdPt (hF:∀ f,F.fn f) (hgd:o.guard=none) {x:Operand} (ho:o.op=.load 204 x) {g:Nat} {ty:TypeId} {X Y Z T:Fe.E} (hx:a.eval x=.pointer (some ⟨g,0,none⟩)) (hg:Blk w g ty (pcs X Y Z T)) (h:wpListIn F n Tryz.prog ops Q rest (a.put o.dst (.agg (pcs X Y Z T))) w):wpListIn F n Tryz.prog ops Q (o::rest) a w:=by
 obtain ⟨d,hd,hs2⟩:=pt_under
 refine wpListIn_plain hgd fun _ hK=>?_
 unfold Oper.wpIn
 rw [Oper.semAt_eq _ _ _ (fun c hc=>by rw [ho] at hc;cases hc)]
 refine ⟨fun f _=>hF f,?_⟩
 unfold execOp
 simp only [ho,hx,Instr.loadAt,Instr.sureAddr,Sem.run_bind,Sem.run_pure,Result.andThen_ok,run_loadVar_row w g ty 204 (pcs X Y Z T) (0,0) d hg hd (by revert hs2;cases d <;> exact fun h=>h) pt_size]
 exact hK _ _ h
end
def stepF (x y:Fin Fe.P) (s:Fin Fe.P × Fin Fe.P) (is:Bool):Fin Fe.P × Fin Fe.P :=
 if is then (Fe.ax (Fe.ax s.1 s.2 s.1 s.2) (Fe.ay s.1 s.2 s.1 s.2) x y,Fe.ay (Fe.ax s.1 s.2 s.1 s.2) (Fe.ay s.1 s.2 s.1 s.2) x y) else (Fe.ax s.1 s.2 s.1 s.2,Fe.ay s.1 s.2 s.1 s.2)
def mulS (x y:Fin Fe.P) (l:List (Nat × Bool)):Fin Fe.P × Fin Fe.P:=l.foldl (fun s e=>stepF x y s e.2) (0,1)
theorem mulS_snoc (x y:Fin Fe.P) (l:List (Nat × Bool)) (e:Nat × Bool):mulS x y (l++[e])=stepF x y (mulS x y l) e.2:=by simp [mulS]
set_option maxRecDepth 100000 in
set_option maxHeartbeats 4000000 in
theorem pmul_c (g o c:Nat) (b:Nat→Int) (hr:∀ j,0≤b j∧b j<256) {X Y Z T:Fe.E} {x y:Fin Fe.P} (w:World) (hg:g<w.heap.size) (hc:∀ j,j<32→w.cell? ⟨g,o+j,none⟩=some (.int .u8 (b j))) (hp:PtE X Y Z T x y) (hCv:CvP w) :
  Calls Tryz.prog 213 #[.slice (some ⟨g,o,none⟩) 32 c,.agg (pcs X Y Z T)] w (PostQ (mulS x y (upto (fun i=>(256-1-i,bitB b (256-1-i))) 256)).1 (mulS x y (upto (fun i=>(256-1-i,bitB b (256-1-i))) 256)).2 w):=by
 refine (callsIn_wide (n:=3)).1 ?_
 have hro:Fence.wide.round=none:=rfl
 have h1:1≤3:=by decide
 have hbits:=fun w1 (hb:Below w.heap.size w w1)=>sbits_c g o c b hr w1 (Nat.lt_of_lt_of_le hg hb.size) (fun j hj=>(hb.cell (p:=⟨g,o+j,none⟩) hg).trans (hc j hj))
 replace hbits:=Lib.hid hbits
 replace hp:=Lib.hid hp
 replace hCv:=Lib.hid hCv
 clear hc hr hg
 simp only [pcs]
 refine callsIn_of_wp_marks Tryz.func213 rfl trivial ?_ hro
 simp only [Tryz.ntmps213,List.size_toArray,List.length_cons,List.length_nil,Nat.reduceAdd,Nat.reduceSub,Array.replicate_succ,Array.replicate_zero,List.push_toArray,List.append_toArray,List.nil_append,List.cons_append]
 gi_wp2_with fail
 refine ⟨trivial,callsIn_at (fun W0 hW=>?_)⟩
 have kB:Blk W0 w.heap.size 204 (pcs X Y Z T):=by rw [hW];exact (Blk.new _ _ _).alloc _
 have k0:Blk W0 (w.heap.size+1) 204 (pcs ⟨0,0,0,0,0⟩ ⟨0,0,0,0,0⟩ ⟨0,0,0,0,0⟩ ⟨0,0,0,0,0⟩):=by rw [hW];exact blk_at (by simp) (Blk.new _ _ _)
 have hb0:Below w.heap.size w W0:=by rw [hW];go_grown
 clear hW
 obtain ⟨G0,hG0⟩:∃ G0,G0=w.heap.size+1:=⟨_,rfl⟩
 rw [← hG0] at k0 ⊢
 obtain ⟨GB,hGB⟩:∃ GB,GB=w.heap.size:=⟨_,rfl⟩
 rw [← hGB] at kB ⊢
 have loB:w.heap.size≤GB:=by omega
 have lo0:w.heap.size≤G0:=by omega
 have nB0:GB≠G0:=by omega
 clear hG0 hGB
 obtain ⟨V1,hV1⟩:∃ V:Value,V=.agg #[.int .u64 X.a0,.int .u64 X.a1,.int .u64 X.a2,.int .u64 X.a3,.int .u64 X.a4,.int .u64 Y.a0,.int .u64 Y.a1,.int .u64 Y.a2,.int .u64 Y.a3,.int .u64 Y.a4,.int .u64 Z.a0,.int .u64 Z.a1,.int .u64 Z.a2,.int .u64 Z.a3,.int .u64 Z.a4,.int .u64 T.a0,.int .u64 T.a1,.int .u64 T.a2,.int .u64 T.a3,.int .u64 T.a4]:=⟨_,rfl⟩
 rw [← hV1]
 clear hV1
 refine (callsIn_wide.2 (zero4_c _)).mono ?_
 rintro e w1 ⟨rfl,hb⟩
 have l0:=k0.lt
 replace kB:=kB.below hb
 replace k0:=k0.below hb
 replace hb0:=hb0.trans (hb.mono hb0.size)
 clear hb l0
 have l0:=k0.lt
 have lB:=kB.lt
 gi_wp2_with (first | (refine inSt (cells:=pcs ⟨0,0,0,0,0⟩ ⟨1,0,0,0,0⟩ ⟨1,0,0,0,0⟩ ⟨0,0,0,0,0⟩) (fun _=>trivial) rfl 288 rfl rfl rfl (Blk.new _ _ _) rfl sm_size (pcs_one _ _ _ _) ?_;intro W1 kS1 hgr hsz;obtain ⟨V6,hV6⟩:∃ V:Value,V=.agg #[.int .u64 0,.int .u64 0,.int .u64 0,.int .u64 0,.int .u64 0,.int .u64 1,.int .u64 0,.int .u64 0,.int .u64 0,.int .u64 0,.int .u64 1,.int .u64 0,.int .u64 0,.int .u64 0,.int .u64 0,.int .u64 0,.int .u64 0,.int .u64 0,.int .u64 0,.int .u64 0]:=⟨_,rfl⟩;rw [← hV6];clear hV6))
 refine ⟨trivial,?_⟩
 have kS:SumQ W1 w1.heap.size (mulS x y []).1 (mulS x y []).2:=⟨_,_,_,_,kS1,ptE_zero⟩
 have hb:Below w1.heap.size w1 W1:=((Below.refl _ _).alloc (Nat.le_refl _) _).grown hgr (by rw [World.size_alloc];omega) (fun k hk=>by injection hk with hk;omega)
 clear hgr hsz kS1 l0 lB
 obtain ⟨GS,hGS⟩:∃ GS,GS=w1.heap.size:=⟨_,rfl⟩
 rw [← hGS] at kS ⊢
 have nBS:GB≠GS:=by have:=kB.lt;omega
 have n0S:G0≠GS:=by have:=k0.lt;omega
 have loS:w.heap.size≤GS:=by have:=hb0.size;omega
 replace kB:=kB.below hb
 replace k0:=k0.below hb
 replace hb0:=hb0.trans (hb.mono hb0.size)
 clear hb hGS
 refine (callsIn_wide.2 (hbits.out W1 hb0)).mono ?_
 rintro e w2 ⟨gr,cr,hgr,rfl,_,hrow,hb⟩
 have nrS:gr≠GS:=by have:=kS.lt;omega
 have ltr:gr<w2.heap.size∨¬ gr<w2.heap.size:=Nat.lt_or_ge gr w2.heap.size |>.imp id (by omega)
 replace ltr:gr<w2.heap.size:=ltr.elim id (fun h=>by
  have:=hrow 0 (by decide)
  simp only [World.cell?,Array.getElem?_eq_none (Nat.not_lt.1 h)] at this
  cases this)
 replace kB:=kB.below hb
 replace k0:=k0.below hb
 replace kS:=kS.below hb
 replace hb0:=hb0.trans (hb.mono hb0.size)
 clear hb hgr hbits
 replace hrow:=Lib.hid hrow
 gi_wp2_with fail
 refine ⟨trivial,(callsIn_wide.2 (back_c _ _ _ _)).mono ?_⟩
 rintro e w3 ⟨rfl,hW⟩
 have hb:Below w2.heap.size w2 w3:=by rw [hW];exact (Below.refl _ _).alloc (Nat.le_refl _) _
 have hBs:w3.cell? ⟨w2.heap.size,0,none⟩=some (.slice (some ⟨gr,0,none⟩) 256 cr):=by rw [hW];exact (Boxed.new w2 _ _).cell
 have hsz:w3.heap.size=w2.heap.size+1:=by rw [hW,World.size_alloc]
 clear hW
 replace kB:=kB.below hb
 replace k0:=k0.below hb
 have nSs:w2.heap.size≠GS:=by have:=kS.lt;omega
 replace kS:=kS.below hb
 replace hb0:=hb0.trans (hb.mono hb0.size)
 have hrow3:=Lib.hid (fun j hj=>(hb.cell (p:=⟨gr,j,none⟩) ltr).trans (hrow.out j hj))
 clear hb hrow
 obtain ⟨Bs,hBx⟩:∃ Bs,Bs=w2.heap.size:=⟨_,rfl⟩
 rw [← hBx] at hBs nSs ⊢
 have ltB:Bs<w3.heap.size:=by omega
 have ltr3:gr<w3.heap.size:=by omega
 clear hsz hBx ltr
 have lts:=kS.lt
 have hC3:=Lib.hid (hCv.out.below hb0 hCv.out.lt)
 gi_wp2
 refine wpIn_rangeFunc_ownG hro h1 (gf:=344) (lb:=#[.pointer (some ⟨Bs,0,none⟩)]) rfl trivial (enters_of Tryz.func344 (by kernel_rfl) rfl)
  (back_stops Fence.wide (3-1) trivial hro (by decide) Bs gr 256 cr (bitB b) (by decide) w3 ltr3 ltB hBs hrow3.out) KpB.trans (fun W l o o' hl h _ _=>KpB.putObj ltr3 ltB hl h) (Below.refl _ _) (fun _=>rfl)
  (fun pre W=>SumQ W GS (mulS x y pre).1 (mulS x y pre).2∧Blk W GB 204 (pcs X Y Z T)∧Blk W G0 204 (pcs ⟨0,0,0,0,0⟩ ⟨0,0,0,0,0⟩ ⟨0,0,0,0,0⟩ ⟨0,0,0,0,0⟩)∧Below w.heap.size w W∧w3.heap.size≤W.heap.size)
  (fun _ _ _=>False)
  (fun s A B row hs hg hr=>⟨hs.1.grown hg (fun e=>by have:=(hr _ e.symm).1;omega),hs.2.1.grown hg (fun e=>by have:=(hr _ e.symm).1;have:=kB.lt;omega),hs.2.2.1.grown hg (fun e=>by have:=(hr _ e.symm).1;have:=k0.lt;omega),hs.2.2.2.1.grown hg hs.2.2.2.1.size (fun k e=>by have:=(hr _ e).1;have:=hb0.size;omega),Nat.le_trans hs.2.2.2.2 hg.size⟩)
  (fun _ _ _ _ _ hs _ _=>hs)
  ⟨kS,kB,k0,hb0,Nat.le_refl _⟩
  (fun x=>{ tmps:=#[.slice (some ⟨g,o,none⟩) 32 c,V1,undef,.pointer (some ⟨GB,0,none⟩),.pointer (some ⟨G0,0,none⟩),.pointer (some ⟨GS,0,none⟩),undef,.bool x.2,V6,V6,.slice (some ⟨g,o,none⟩) 32 c,.slice (some ⟨gr,0,none⟩) 256 cr,.func (.func 344) #[] #[.pointer (some ⟨Bs,0,none⟩)],.int .i64 (x.1:Int),.bool x.2,undef,undef,undef,undef,undef,undef],defers:=[] }) ?assign ?body ?done ?stop
 case assign =>
  intro l x W K hK
  gi_wp2
  exact hK
 case body =>
  rintro l pre ⟨xi,xb⟩ W ⟨hS,hB,h0,hb,hs⟩ hlt
  have hCW:=hC3.out
  have hC:CvP W:=hCv.out.below hb hCv.out.lt
  clear hC3 hCW
  gi_wp2_with fail
  refine ⟨trivial,(CallsIn.inRound l (callsIn_wide.2 (tdbl_c GS W hS))).mono ?_⟩
  rintro e W2 ⟨rfl,hS2,hg2⟩
  have kf:=KeepsFrom.of_grownBy (B:=w3.heap.size) hg2 (fun j e=>by cases e;exact lts)
  have kp:=KpB.grown hg2 (Nat.lt_of_lt_of_le ltr3 hs) (Nat.lt_of_lt_of_le ltB hs) nrS nSs
  have hB2:=hB.grown hg2 (fun e=>nBS (by injection e))
  have h02:=h0.grown hg2 (fun e=>n0S (by injection e))
  have hC2:=hC.grown hg2 (by have:=hCv.out.lt;omega)
  have hb2:=hb.grown hg2 hb.size (fun k e=>by injection e with e;omega)
  have hs2:=Nat.le_trans hs hg2.size
  clear hS hB h0 hC hb hs hg2
  cases xb
  ·gi_wp2
   exact ⟨kf,kp,by rw [mulS_snoc];exact hS2,hB2,h02,hb2,hs2⟩
  gi_wp2_with (first | (refine inLdPt (fun _=>trivial) rfl rfl rfl hB2 ?_))
  refine ⟨trivial,(CallsIn.inRound l (callsIn_wide.2 (tadd_c GS W2 hS2 hp.out hC2))).mono ?_⟩
  rintro e W3 ⟨rfl,hS3,hg3⟩
  have kf3:=KeepsFrom.of_grownBy (B:=w3.heap.size) hg3 (fun j e=>by cases e;exact lts)
  have kp3:=KpB.grown hg3 (Nat.lt_of_lt_of_le ltr3 hs2) (Nat.lt_of_lt_of_le ltB hs2) nrS nSs
  have hB3:=hB2.grown hg3 (fun e=>nBS (by injection e))
  have h03:=h02.grown hg3 (fun e=>n0S (by injection e))
  have hb3:=hb2.grown hg3 hb2.size (fun k e=>by injection e with e;omega)
  have hs3:=Nat.le_trans hs2 hg3.size
  clear hS2 hB2 h02 hC2 hb2 hg3
  gi_wp2
  exact ⟨kf.trans kf3,kp.trans kp3,by rw [mulS_snoc];exact hS3,hB3,h03,hb3,hs3⟩
 case done =>
  rintro D ys W hD rfl ⟨hS,hB,h0,hb,hs⟩ hK
  obtain ⟨X2,Y2,Z2,T2,kS2,hE⟩:=hS
  replace hE:=Lib.hid hE
  gi_wp2_with (first | (refine inLdPt (fun _=>trivial) rfl rfl rfl kS2 ?_) | (refine inSt (fun _=>trivial) rfl 204 rfl rfl rfl h0 rfl pt_size (pcs_one _ _ _ _) ?_;intro W4 k4 hgr hsz))
  have ltD:D<W.heap.size:=(Array.getElem?_eq_some_iff.1 hK).1
  have hK4:W4.heap[D]?=some (.deferred (some [])):=(hgr.block D ltD (fun e=>by injection e with e;have:=k0.lt;omega)).trans hK
  have hb4:Below w.heap.size w W4:=hb.grown hgr hb.size (fun k e=>by injection e with e;omega)
  have ltD4:D<W4.heap.size:=(Array.getElem?_eq_some_iff.1 hK4).1
  refine ⟨by simp,.inl ⟨_,_,rfl,run_takeDeferred hK4,?_⟩⟩
  obtain ⟨d,hd,hs2⟩:=pt_under
  have k5:Blk (W4.putObj D (.deferred none)) G0 204 (pcs X2 Y2 Z2 T2):=k4.grown (grownBy_putObj' W4 D (.deferred none)) (fun e=>by injection e with e;have:=k0.lt;omega)
  refine ⟨.agg (pcs X2 Y2 Z2 T2),results_cell_row rfl _ _ G0 204 (pcs X2 Y2 Z2 T2) (0,0) d rfl k5 hd (by revert hs2;cases d <;> exact fun h=>h) pt_size,?_⟩
  exact ⟨X2,Y2,Z2,T2,rfl,hE.out,hb4.grown (grownBy_putObj' W4 D (.deferred none)) hb4.size (fun k e=>by injection e with e;have:=hb0.size;omega)⟩
 case stop =>
  rintro D c pre W _ _ h _
  exact h.elim
end Go.Proofs.YtnopjabcdloepaaGreatDoor
