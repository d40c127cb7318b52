import Derived.Test.YtnopjabcdloepaaGreatDoorFw4
import Derived.Shelf.Spec.BitsCarry
import Derived.Lib.EndianBits
import Derived.Lib.BufferOwn
namespace Sc
def V (a:Fe.E):Int:=a.a0+18446744073709551616*a.a1+340282366920938463463374607431768211456*a.a2+6277101735386680763835789423207666416102355444464034512896*a.a3+115792089237316195423570985008687907853269984665640564039457584007913129639936*a.a4
def lessB (a b:Fe.E):Bool:=if a.a4 != b.a4 then decide (a.a4<b.a4) else if a.a3 != b.a3 then decide (a.a3<b.a3) else if a.a2 != b.a2 then decide (a.a2<b.a2) else if a.a1 != b.a1 then decide (a.a1<b.a1) else decide (a.a0<b.a0)
theorem lessB_eq {a b:Fe.E} (ha:Fe.W a) (hb:Fe.W b):lessB a b=decide (V a<V b):=by
 obtain ⟨a0,a1,a2,a3,a4⟩:=a
 obtain ⟨b0,b1,b2,b3,b4⟩:=b
 simp only [Fe.W] at ha hb
 unfold lessB V
 dsimp only
 by_cases h4:a4=b4
 ·subst h4
  by_cases h3:a3=b3
  ·subst h3
   by_cases h2:a2=b2
   ·subst h2
    by_cases h1:a1=b1
    ·subst h1
     simp
    have e1:(a1 != b1)=true:=by simpa using h1
    simp only [bne_self_eq_false,e1,Bool.false_eq_true,if_false,if_true]
    rw [decide_eq_decide]
    omega
   have e1:(a2 != b2)=true:=by simpa using h2
   simp only [bne_self_eq_false,e1,Bool.false_eq_true,if_false,if_true]
   rw [decide_eq_decide]
   omega
  have e1:(a3 != b3)=true:=by simpa using h3
  simp only [bne_self_eq_false,e1,Bool.false_eq_true,if_false,if_true]
  rw [decide_eq_decide]
  omega
 have e1:(a4 != b4)=true:=by simpa using h4
 simp only [e1,if_true]
 rw [decide_eq_decide]
 omega
end Sc
namespace Go.Proofs.YtnopjabcdloepaaGreatDoor
open Go.RowKit
theorem num_under:Tryz.prog.underlying 382=some (.array 5 200):=by kernel_rfl
theorem run_eql_N (x y:Fe.E) (w:World):(binOp .eql 382 (.agg #[.int .u64 x.a0,.int .u64 x.a1,.int .u64 x.a2,.int .u64 x.a3,.int .u64 x.a4]) (.agg #[.int .u64 y.a0,.int .u64 y.a1,.int .u64 y.a2,.int .u64 y.a3,.int .u64 y.a4])).run Tryz.prog w=.ok (.bool (eqE x y)) w :=
 run_eql_ints w 5 num_under u64_under u64_size (lst x) (lst y) rfl rfl
set_option maxRecDepth 20000 in
set_option maxHeartbeats 2000000 in
theorem sless_c (a b:Fe.E) (w:World):Calls Tryz.prog 367 #[.agg #[.int .u64 a.a0,.int .u64 a.a1,.int .u64 a.a2,.int .u64 a.a3,.int .u64 a.a4],.agg #[.int .u64 b.a0,.int .u64 b.a1,.int .u64 b.a2,.int .u64 b.a3,.int .u64 b.a4]] w (PostV (.bool (Sc.lessB a b)) w):=by
 have heq:=run_eql_N a b
 obtain ⟨r,hr⟩:∃ r,Sc.lessB a b=r:=⟨_,rfl⟩
 rw [hr]
 unfold Sc.lessB at hr
 cases he:eqE a b
 ·rw [he] at heq
  obtain ⟨q4,h4⟩:∃ q,(a.a4 != b.a4)=q:=⟨_,rfl⟩
  obtain ⟨q3,h3⟩:∃ q,(a.a3 != b.a3)=q:=⟨_,rfl⟩
  obtain ⟨q2,h2⟩:∃ q,(a.a2 != b.a2)=q:=⟨_,rfl⟩
  obtain ⟨q1,h1⟩:∃ q,(a.a1 != b.a1)=q:=⟨_,rfl⟩
  obtain ⟨q0,h0⟩:∃ q,(a.a0 != b.a0)=q:=⟨_,rfl⟩
  rw [h4,h3,h2,h1] at hr
  have hz:q4=false→q3=false→q2=false→q1=false→q0=true:=by
   intro e4 e3 e2 e1
   rw [e4] at h4;rw [e3] at h3;rw [e2] at h2;rw [e1] at h1
   simp only [bne_eq_false_iff_eq] at h4 h3 h2 h1
   rw [← h0,bne_iff_ne]
   intro e0
   have:a=b:=by
    obtain ⟨a0,a1,a2,a3,a4⟩:=a
    obtain ⟨b0,b1,b2,b3,b4⟩:=b
    simp only at e0 h1 h2 h3 h4
    rw [e0,h1,h2,h3,h4]
   rw [eqE_iff.2 this] at he
   cases he
  clear he
  replace hr:=Lib.hid hr
  replace hz:=Lib.hid hz
  go_enter Tryz.func367,Tryz.ntmps367
  go_wp2
  refine wp_loop_rounds 6 ?_
  rw [rounds_succ]
  cases q4
  rotate_left
  ·go_wp2
   go_region
   go_wp2
   go_region
   go_wp2
   go_returns
   exact ⟨by simp [← hr.out],by go_grown⟩
  go_wp2
  go_region
  go_wp2
  rw [rounds_succ]
  cases q3
  rotate_left
  ·go_wp2
   go_region
   go_wp2
   go_region
   go_wp2
   go_returns
   exact ⟨by simp [← hr.out],by go_grown⟩
  go_wp2
  go_region
  go_wp2
  rw [rounds_succ]
  cases q2
  rotate_left
  ·go_wp2
   go_region
   go_wp2
   go_region
   go_wp2
   go_returns
   exact ⟨by simp [← hr.out],by go_grown⟩
  go_wp2
  go_region
  go_wp2
  rw [rounds_succ]
  cases q1
  rotate_left
  ·go_wp2
   go_region
   go_wp2
   go_region
   go_wp2
   go_returns
   exact ⟨by simp [← hr.out],by go_grown⟩
  go_wp2
  go_region
  go_wp2
  obtain rfl:q0=true:=by simpa using hz.out
  rw [rounds_succ]
  go_wp2
  go_region
  go_wp2
  go_region
  go_wp2
  go_returns
  exact ⟨by simp [← hr.out],by go_grown⟩
 rw [he] at heq
 have:a=b:=eqE_iff.1 he
 subst this
 have:r=false:=by rw [← hr];simp
 subst this
 clear he hr
 go_enter Tryz.func367,Tryz.ntmps367
 go_wp2
 go_returns
 exact ⟨rfl,by go_grown⟩
def lE:Fe.E:=⟨6346243789798364141,1503914060200516822,0,1152921504606846976,0⟩
set_option maxRecDepth 20000 in
set_option maxHeartbeats 2000000 in
theorem order_c (w:World):Calls Tryz.prog 366 #[] w fun e w'=>e=.returned (.agg #[.int .u64 lE.a0,.int .u64 lE.a1,.int .u64 lE.a2,.int .u64 lE.a3,.int .u64 lE.a4])∧w'=w.alloc (.cells #[.int .u64 lE.a0,.int .u64 lE.a1,.int .u64 lE.a2,.int .u64 lE.a3,.int .u64 lE.a4] 382):=by
 go_enter Tryz.func366,Tryz.ntmps366
 go_wp2
 go_returns
 exact ⟨rfl,rfl⟩
theorem run_sub64_at (x y b:Int) (hx:0≤x) (hy:0≤y) (hb:b=0∨b=1) (hy2:y≤18446744073709551615) (w:World) :
  (callFunc 368 #[.int .u64 x,.int .u64 y,.int .u64 b]).run Tryz.prog w=.ok (.value (.tuple #[.int .u64 ((x-y-b) % 18446744073709551616),.int .u64 (if x<y+b then 1 else 0)])) w:=by
 obtain ⟨x,rfl⟩:=Int.eq_ofNat_of_zero_le hx
 obtain ⟨y,rfl⟩:=Int.eq_ofNat_of_zero_le hy
 obtain ⟨b,rfl,hb1⟩:∃ c:Nat,b=(c:Int)∧c≤1:=by rcases hb with rfl | rfl;exact ⟨0,rfl,by decide⟩;exact ⟨1,rfl,by decide⟩
 rw [run_callFunc_extern (e:=sub64Entry) Tryz.func368 (by kernel_rfl) (by kernel_rfl) (by kernel_rfl) (by kernel_rfl),run_sub64 x y b hb1]
 have e1:((x+18446744073709551616-y-b) % 18446744073709551616:Nat)=((x:Int)-y-b) % 18446744073709551616:=by omega
 have e2:((if x<y+b then 1 else 0:Nat):Int)=if (x:Int)<(y:Int)+(b:Int) then 1 else 0:=by
  by_cases h:x<y+b
  ·rw [if_pos h,if_pos (by omega)];rfl
  rw [if_neg h,if_neg (by omega)];rfl
 rw [e1,e2]
 rfl
theorem sub64_l (x y b:Int) (hx:0≤x∧x≤18446744073709551615) (hy:0≤y∧y≤18446744073709551615) (hb:b=0∨b=1):∃ d c:Int,(∀ w,(callFunc 368 #[.int .u64 x,.int .u64 y,.int .u64 b]).run Tryz.prog w=.ok (.value (.tuple #[.int .u64 d,.int .u64 c])) w)∧(0≤d∧d≤18446744073709551615)∧(c=0∨c=1)∧d-18446744073709551616*c=x-y-b:=by
 refine ⟨_,_,fun w=>run_sub64_at x y b hx.1 hy.1 hb hy.2 w,by omega,?_,?_⟩
 ·by_cases h:x<y+b
  ·exact .inr (if_pos h)
  exact .inl (if_neg h)
 by_cases h:x<y+b
 ·rw [if_pos h];omega
 rw [if_neg h];omega
def mE (k:Nat):Fe.E:=⟨IntKind.u64.wrap (lE.a0*2 ^ k),bits .or .u64 (IntKind.u64.wrap (lE.a1*2 ^ k)) (lE.a0 / 2 ^ (64-k)),bits .or .u64 (IntKind.u64.wrap (lE.a2*2 ^ k)) (lE.a1 / 2 ^ (64-k)),bits .or .u64 (IntKind.u64.wrap (lE.a3*2 ^ k)) (lE.a2 / 2 ^ (64-k)),bits .or .u64 (IntKind.u64.wrap (lE.a4*2 ^ k)) (lE.a3 / 2 ^ (64-k))⟩
def LI:Int:=7237005577332262213973186563042994240857116359379907606001950938285454250989
theorem mE_ok:∀ k:Fin 9,Sc.V (mE k.val)=LI*2 ^ k.val∧Fe.W (mE k.val):=by
 unfold Fe.W
 decide +kernel
theorem grown_cell {w W:World} {g:Nat} (h:w.grownBy W (some g)) (j:Nat) (v:Value):w.grownBy (W.setCell ⟨g,j,none⟩ v) (some g) :=
 ⟨h.os,h.tape,h.output,by simpa using h.size,fun k hk hn=>(Below.heap_setCell W ⟨g,j,none⟩ v k (fun e=>hn (by rw [e]))).trans (h.block k hk hn)⟩
theorem grown_celld {w W:World} {g:Nat} (h:w.grownBy W (some g)) (j:Nat) (v:Value):w.grownBy (W.setCell ⟨g,j,none⟩ v).drew (some g) :=
 have h:=grown_cell h j v
 ⟨h.os,h.tape,h.output,h.size,h.block⟩
def PostMin (a:Fe.E) (N:Int) (GR:Nat) (w:World) (e:Ending) (w':World):Prop:=e=.returned (.tuple #[])∧∃ d:Fe.E,Fe.W d∧Sc.V d=(if Sc.V a<N then Sc.V a else Sc.V a-N)∧Blk w' GR 384 #[.int .u64 d.a0,.int .u64 d.a1,.int .u64 d.a2,.int .u64 d.a3,.int .u64 d.a4]∧w.grownBy w' (some GR)
set_option maxRecDepth 20000 in
set_option maxHeartbeats 2000000 in
theorem sminus_c (a:Fe.E) (ha:Fe.W a) (GR:Nat) (w:World) (hR:Blk w GR 384 #[.int .u64 a.a0,.int .u64 a.a1,.int .u64 a.a2,.int .u64 a.a3,.int .u64 a.a4]) (k:Nat) (hk:k≤8):Calls Tryz.prog 353 #[.pointer (some ⟨GR,0,none⟩),.int .u64 k] w (PostMin a (LI*2 ^ k) GR w):=by
 have hk1:(k:Int)≤8:=by omega
 have hk0:0≤(k:Int):=by omega
 obtain ⟨l,hl⟩:∃ l,lE=l:=⟨_,rfl⟩
 obtain ⟨m,hm⟩:∃ m,mE k=m:=⟨_,rfl⟩
 have hm0:IntKind.u64.wrap (l.a0*2 ^ k)=m.a0:=by rw [← hm,← hl];rfl
 have ho:=order_c
 rw [hl] at ho
 have hmo:=mE_ok ⟨k,by omega⟩
 rw [show (⟨k,by omega⟩:Fin 9).val=k from rfl,hm] at hmo
 obtain ⟨hmv,hmw⟩:=hmo
 rw [← hmv]
 have hlb:=Sc.lessB_eq ha hmw
 obtain ⟨n0,n1,n2,n3,n4⟩:=hmw
 obtain ⟨y0,y1,y2,y3,y4⟩:=ha
 obtain ⟨d0,u0,t0,v0,x0,z0⟩:=sub64_l a.a0 m.a0 0 y0 n0 (.inl rfl)
 obtain ⟨d1,u1,t1,v1,x1,z1⟩:=sub64_l a.a1 m.a1 u0 y1 n1 x0
 obtain ⟨d2,u2,t2,v2,x2,z2⟩:=sub64_l a.a2 m.a2 u1 y2 n2 x1
 obtain ⟨d3,u3,t3,v3,x3,z3⟩:=sub64_l a.a3 m.a3 u2 y3 n3 x2
 obtain ⟨d4,u4,t4,v4,x4,z4⟩:=sub64_l a.a4 m.a4 u3 y4 n4 x3
 have hdv:Sc.V m≤Sc.V a→Sc.V ⟨d0,d1,d2,d3,d4⟩=Sc.V a-Sc.V m:=by
  unfold Sc.V
  dsimp only
  intro h
  omega
 have hdw:Fe.W ⟨d0,d1,d2,d3,d4⟩:=⟨v0,v1,v2,v3,v4⟩
 have haw:Fe.W a:=⟨y0,y1,y2,y3,y4⟩
 clear n0 n1 n2 n3 n4 y0 y1 y2 y3 y4 v0 v1 v2 v3 v4 x0 x1 x2 x3 x4 z0 z1 z2 z3 z4 hmv
 replace hdv:=Lib.hid hdv
 replace hdw:=Lib.hid hdw
 replace haw:=Lib.hid haw
 replace hlb:=Lib.hid hlb
 replace hl:=Lib.hid hl
 replace hm:=Lib.hid hm
 replace ho:=Lib.hid ho
 replace hR:=Lib.hid hR
 have hcase:(1≤(k:Int)∧decide (0<k)=true∧bits .or .u64 (IntKind.u64.wrap (l.a1*2 ^ k)) (l.a0 / 2 ^ (64-k))=m.a1∧bits .or .u64 (IntKind.u64.wrap (l.a2*2 ^ k)) (l.a1 / 2 ^ (64-k))=m.a2∧bits .or .u64 (IntKind.u64.wrap (l.a3*2 ^ k)) (l.a2 / 2 ^ (64-k))=m.a3∧bits .or .u64 (IntKind.u64.wrap (l.a4*2 ^ k)) (l.a3 / 2 ^ (64-k))=m.a4)∨((k:Int)≤0∧decide (0<k)=false∧IntKind.u64.wrap (l.a1*2 ^ k)=m.a1∧IntKind.u64.wrap (l.a2*2 ^ k)=m.a2∧IntKind.u64.wrap (l.a3*2 ^ k)=m.a3∧IntKind.u64.wrap (l.a4*2 ^ k)=m.a4):=by
  rw [← hm.out,← hl.out]
  rcases Nat.eq_zero_or_pos k with h0 | h0
  ·subst h0
   exact .inr (by decide +kernel)
  exact .inl ⟨by omega,by simpa using h0,rfl,rfl,rfl,rfl⟩
 rcases hcase with ⟨hk2,hgk,hm1,hm2,hm3,hm4⟩ | ⟨hk2,hgk,hm1,hm2,hm3,hm4⟩
 all_goals
  go_enter Tryz.func353,Tryz.ntmps353
  go_wp2_with (refine (ho.out _).mono ?_;rintro e w1 ⟨rfl,rfl⟩)
  refine wp_loop_rounds 6 ?_
  rw [rounds_succ]
  go_wp2
  rw [rounds_succ]
  go_wp2
  try (go_region;go_wp2)
  rw [rounds_succ]
  go_wp2
  try (go_region;go_wp2)
  rw [rounds_succ]
  go_wp2
  try (go_region;go_wp2)
  rw [rounds_succ]
  go_wp2
  try (go_region;go_wp2)
  rw [rounds_succ]
  go_wp2
  refine at_world (fun W0 hW=>?_)
  have hM:Blk W0 w.heap.size 382 #[.int .u64 m.a0,.int .u64 m.a1,.int .u64 m.a2,.int .u64 m.a3,.int .u64 m.a4]:=by
   rw [hW]
   exact (Blk.new w _ _).alloc _ |>.alloc _
  have hb0:Below w.heap.size w W0:=by rw [hW];go_grown
  clear hW hm0 hm1 hm2 hm3 hm4 hgk
  obtain ⟨GM,hGM⟩:∃ GM,GM=w.heap.size:=⟨_,rfl⟩
  have hlt:GR<w.heap.size:=hR.out.lt
  have hne:GR≠GM:=by omega
  have hBM:w.heap.size≤GM:=by omega
  rw [← hGM] at hM ⊢
  have hR1:=hR.out.below hb0
  clear hR hGM
  obtain ⟨r0,r1,r2,r3,r4⟩:=blk5 hR1
  obtain ⟨s0,s1,s2,s3,s4⟩:=blk5 hM
  have hls:=sless_c a m
  replace hls:=Lib.hid hls
  refine wp_region_still_tail 5 (by kernel_rfl) (by kernel_rfl) ?_
  change wpStill _ _ (World.drew _) (fun a'=>wpList _ _ _ _ a' (World.drew _)) _ _
  simp only [List.take_succ_cons,List.take_zero,List.drop_succ_cons,List.drop_zero]
  repeat still_step
  refine wpStill_nil ?_
  go_wp2_with fail
  refine (hls.out _).mono ?_
  rintro e w1 ⟨rfl,hb1⟩
  clear r0 r1 r2 r3 r4 s0 s1 s2 s3 s4 hls
  replace hb1:Below W0.heap.size W0 w1:=(Below.refl _ _).drew.trans hb1
  have hR2:=hR1.below hb1
  have hM2:=hM.below hb1
  have hb2:=hb0.trans (hb1.mono hb0.size)
  clear hR1 hM hb0 hb1
  cases hls:Sc.lessB a m
  rotate_left
  ·go_wp2
   go_returns
   rw [hls] at hlb
   have:Sc.V a<Sc.V m:=by simpa using hlb.out
   exact ⟨rfl,a,haw.out,by rw [if_pos this],hR2,⟨hb2.os,hb2.tape,hb2.output,hb2.size,fun k hk _=>hb2.block k hk⟩⟩
  rw [hls] at hlb
  have hnl:Sc.V m≤Sc.V a:=by simpa using hlb.out
  replace hnl:=Lib.hid hnl
  clear hlb
  have hg2:w.grownBy w1 (some GR):=⟨hb2.os,hb2.tape,hb2.output,hb2.size,fun k hk _=>hb2.block k hk⟩
  clear hb2
  go_wp2
  refine wp_loop_rounds 6 ?_
  rw [rounds_succ]
  obtain ⟨r0,r1,r2,r3,r4⟩:=blk5 hR2
  obtain ⟨s0,s1,s2,s3,s4⟩:=blk5 hM2
  have fR:=fun j=>hR2.frozen j
  go_wp2
  go_region
  clear r0 r1 r2 r3 r4 s0 s1 s2 s3 s4 fR
  go_wp2
  rw [rounds_succ]
  refine at_world (fun W2 hW=>?_)
  replace hR2:Blk W2 GR 384 #[.int .u64 d0,.int .u64 a.a1,.int .u64 a.a2,.int .u64 a.a3,.int .u64 a.a4]:=by rw [hW];exact hR2.set_ 0 (.int .u64 d0)
  replace hM2:Blk W2 GM 382 #[.int .u64 m.a0,.int .u64 m.a1,.int .u64 m.a2,.int .u64 m.a3,.int .u64 m.a4]:=by rw [hW];exact hM2.far (fun h=>hne h.symm) _
  replace hg2:w.grownBy W2 (some GR):=by rw [hW];exact grown_celld hg2 _ _
  clear hW
  obtain ⟨r0,r1,r2,r3,r4⟩:=blk5 hR2
  obtain ⟨s0,s1,s2,s3,s4⟩:=blk5 hM2
  have fR:=fun j=>hR2.frozen j
  go_wp2
  go_region
  clear r0 r1 r2 r3 r4 s0 s1 s2 s3 s4 fR
  go_wp2
  rw [rounds_succ]
  refine at_world (fun W3 hW=>?_)
  replace hR2:Blk W3 GR 384 #[.int .u64 d0,.int .u64 d1,.int .u64 a.a2,.int .u64 a.a3,.int .u64 a.a4]:=by rw [hW];exact hR2.set_ 1 (.int .u64 d1)
  replace hM2:Blk W3 GM 382 #[.int .u64 m.a0,.int .u64 m.a1,.int .u64 m.a2,.int .u64 m.a3,.int .u64 m.a4]:=by rw [hW];exact hM2.far (fun h=>hne h.symm) _
  replace hg2:w.grownBy W3 (some GR):=by rw [hW];exact grown_celld hg2 _ _
  clear hW
  obtain ⟨r0,r1,r2,r3,r4⟩:=blk5 hR2
  obtain ⟨s0,s1,s2,s3,s4⟩:=blk5 hM2
  have fR:=fun j=>hR2.frozen j
  go_wp2
  go_region
  clear r0 r1 r2 r3 r4 s0 s1 s2 s3 s4 fR
  go_wp2
  rw [rounds_succ]
  refine at_world (fun W4 hW=>?_)
  replace hR2:Blk W4 GR 384 #[.int .u64 d0,.int .u64 d1,.int .u64 d2,.int .u64 a.a3,.int .u64 a.a4]:=by rw [hW];exact hR2.set_ 2 (.int .u64 d2)
  replace hM2:Blk W4 GM 382 #[.int .u64 m.a0,.int .u64 m.a1,.int .u64 m.a2,.int .u64 m.a3,.int .u64 m.a4]:=by rw [hW];exact hM2.far (fun h=>hne h.symm) _
  replace hg2:w.grownBy W4 (some GR):=by rw [hW];exact grown_celld hg2 _ _
  clear hW
  obtain ⟨r0,r1,r2,r3,r4⟩:=blk5 hR2
  obtain ⟨s0,s1,s2,s3,s4⟩:=blk5 hM2
  have fR:=fun j=>hR2.frozen j
  go_wp2
  go_region
  clear r0 r1 r2 r3 r4 s0 s1 s2 s3 s4 fR
  go_wp2
  rw [rounds_succ]
  refine at_world (fun W5 hW=>?_)
  replace hR2:Blk W5 GR 384 #[.int .u64 d0,.int .u64 d1,.int .u64 d2,.int .u64 d3,.int .u64 a.a4]:=by rw [hW];exact hR2.set_ 3 (.int .u64 d3)
  replace hM2:Blk W5 GM 382 #[.int .u64 m.a0,.int .u64 m.a1,.int .u64 m.a2,.int .u64 m.a3,.int .u64 m.a4]:=by rw [hW];exact hM2.far (fun h=>hne h.symm) _
  replace hg2:w.grownBy W5 (some GR):=by rw [hW];exact grown_celld hg2 _ _
  clear hW
  obtain ⟨r0,r1,r2,r3,r4⟩:=blk5 hR2
  obtain ⟨s0,s1,s2,s3,s4⟩:=blk5 hM2
  have fR:=fun j=>hR2.frozen j
  go_wp2
  go_region
  clear r0 r1 r2 r3 r4 s0 s1 s2 s3 s4 fR
  go_wp2
  rw [rounds_succ]
  go_wp2
  go_returns
  refine ⟨rfl,⟨d0,d1,d2,d3,d4⟩,hdw.out,?_,?_,?_⟩
  ·rw [if_neg (by have:=hnl.out;omega)]
   exact hdv.out hnl.out
  ·exact hR2.set_ 4 (.int .u64 d4)
  exact grown_celld hg2 _ _
end Go.Proofs.YtnopjabcdloepaaGreatDoor
namespace Go.Proofs.YtnopjabcdloepaaGreatDoor
open Go.RowKit
theorem or8_b {x y:Int} (hy:0≤y∧y<256):bits .or .u64 (IntKind.u64.wrap (x*256)) y=x*256 % 18446744073709551616+y:=by
 rw [IntKind.wrap_u64]
 exact bits_join .u64 64 (by decide) wraps_u64 8 _ _ (by omega) (by omega) (by omega) hy.1 (by omega) (by omega)
def PostRest (N:Int) (GR:Nat) (w:World) (e:Ending) (w':World):Prop:=e=.returned (.tuple #[])∧∃ d:Fe.E,Fe.W d∧Sc.V d=N∧Blk w' GR 384 #[.int .u64 d.a0,.int .u64 d.a1,.int .u64 d.a2,.int .u64 d.a3,.int .u64 d.a4]∧w.grownBy w' (some GR)
theorem rest_l (a:Fe.E) (ha:Fe.W a) (hv:0≤Sc.V a∧Sc.V a<LI) (b:Int) (hb:0≤b∧b<256):∃ c0 c1 c2 c3 c4:Int,bits .or .u64 (IntKind.u64.wrap (a.a4*256)) (a.a3 / 72057594037927936)=c4∧bits .or .u64 (IntKind.u64.wrap (a.a3*256)) (a.a2 / 72057594037927936)=c3∧bits .or .u64 (IntKind.u64.wrap (a.a2*256)) (a.a1 / 72057594037927936)=c2∧bits .or .u64 (IntKind.u64.wrap (a.a1*256)) (a.a0 / 72057594037927936)=c1∧bits .or .u64 (IntKind.u64.wrap (a.a0*256)) b=c0∧Fe.W ⟨c0,c1,c2,c3,c4⟩∧Sc.V ⟨c0,c1,c2,c3,c4⟩=256*Sc.V a+b:=by
 obtain ⟨a0,a1,a2,a3,a4⟩:=a
 obtain ⟨⟨h0,k0⟩,⟨h1,k1⟩,⟨h2,k2⟩,⟨h3,k3⟩,⟨h4,k4⟩⟩:=ha
 dsimp only at *
 refine ⟨_,_,_,_,_,or8_b (by omega),or8_b (by omega),or8_b (by omega),or8_b (by omega),or8_b hb,?_,?_⟩
 ·unfold Fe.W
  dsimp only
  omega
 unfold Sc.V LI at hv
 unfold Sc.V
 dsimp only at *
 omega
set_option maxRecDepth 20000 in
set_option maxHeartbeats 2000000 in
theorem srest_c (a:Fe.E) (ha:Fe.W a) (hv:0≤Sc.V a∧Sc.V a<LI) (b:Int) (hb:0≤b∧b<256) (GR:Nat) (w:World) (hR:Blk w GR 384 #[.int .u64 a.a0,.int .u64 a.a1,.int .u64 a.a2,.int .u64 a.a3,.int .u64 a.a4]):Calls Tryz.prog 321 #[.pointer (some ⟨GR,0,none⟩),.int .u8 b] w (PostRest ((256*Sc.V a+b) % LI) GR w):=by
 obtain ⟨c0,c1,c2,c3,c4,e4,e3,e2,e1,e0,hcw,hcv⟩:=rest_l a ha hv b hb
 rw [← hcv]
 have hlo:0≤Sc.V ⟨c0,c1,c2,c3,c4⟩∧Sc.V ⟨c0,c1,c2,c3,c4⟩<LI*2 ^ 9:=by
  rw [hcv]
  have h1:=hv.1
  have h2:=hv.2
  have h3:LI*2 ^ 9=512*LI:=by unfold LI;decide
  rw [h3]
  omega
 clear hv hcv ha
 replace hcw:=Lib.hid hcw
 replace hlo:=Lib.hid hlo
 obtain ⟨hb0,hb1⟩:=hb
 have hg:w.grownBy w (some GR):=⟨rfl,rfl,rfl,Nat.le_refl _,fun _ _ _=>rfl⟩
 obtain ⟨r0,r1,r2,r3,r4⟩:=blk5 hR
 have fR:=fun j=>hR.frozen j
 go_enter Tryz.func321,Tryz.ntmps321
 go_wp2
 refine wp_loop_rounds 5 ?_
 rw [rounds_succ]
 go_wp2
 go_region
 go_wp2
 rw [rounds_succ]
 clear r0 r1 r2 r3 r4 fR
 refine at_world (fun W1 hW=>?_)
 replace hR:Blk W1 GR 384 #[.int .u64 a.a0,.int .u64 a.a1,.int .u64 a.a2,.int .u64 a.a3,.int .u64 c4]:=by rw [hW];exact hR.set_ 4 (.int .u64 c4)
 replace hg:w.grownBy W1 (some GR):=by rw [hW];exact grown_celld hg _ _
 clear hW
 obtain ⟨r0,r1,r2,r3,r4⟩:=blk5 hR
 have fR:=fun j=>hR.frozen j
 go_wp2
 go_region
 go_wp2
 rw [rounds_succ]
 clear r0 r1 r2 r3 r4 fR
 refine at_world (fun W2 hW=>?_)
 replace hR:Blk W2 GR 384 #[.int .u64 a.a0,.int .u64 a.a1,.int .u64 a.a2,.int .u64 c3,.int .u64 c4]:=by rw [hW];exact hR.set_ 3 (.int .u64 c3)
 replace hg:w.grownBy W2 (some GR):=by rw [hW];exact grown_celld hg _ _
 clear hW
 obtain ⟨r0,r1,r2,r3,r4⟩:=blk5 hR
 have fR:=fun j=>hR.frozen j
 go_wp2
 go_region
 go_wp2
 rw [rounds_succ]
 clear r0 r1 r2 r3 r4 fR
 refine at_world (fun W3 hW=>?_)
 replace hR:Blk W3 GR 384 #[.int .u64 a.a0,.int .u64 a.a1,.int .u64 c2,.int .u64 c3,.int .u64 c4]:=by rw [hW];exact hR.set_ 2 (.int .u64 c2)
 replace hg:w.grownBy W3 (some GR):=by rw [hW];exact grown_celld hg _ _
 clear hW
 obtain ⟨r0,r1,r2,r3,r4⟩:=blk5 hR
 have fR:=fun j=>hR.frozen j
 go_wp2
 go_region
 go_wp2
 rw [rounds_succ]
 clear r0 r1 r2 r3 r4 fR
 refine at_world (fun W4 hW=>?_)
 replace hR:Blk W4 GR 384 #[.int .u64 a.a0,.int .u64 c1,.int .u64 c2,.int .u64 c3,.int .u64 c4]:=by rw [hW];exact hR.set_ 1 (.int .u64 c1)
 replace hg:w.grownBy W4 (some GR):=by rw [hW];exact grown_celld hg _ _
 clear hW
 obtain ⟨r0,r1,r2,r3,r4⟩:=blk5 hR
 have fR:=fun j=>hR.frozen j
 go_wp2
 go_region
 clear r0 r1 r2 r3 r4 fR
 go_wp2
 refine at_world (fun W5 hW=>?_)
 replace hR:Blk W5 GR 384 #[.int .u64 c0,.int .u64 c1,.int .u64 c2,.int .u64 c3,.int .u64 c4]:=by rw [hW];exact hR.set_ 0 (.int .u64 c0)
 replace hg:w.grownBy W5 (some GR):=by rw [hW];exact grown_celld hg _ _
 clear hW
 obtain ⟨c,hc⟩:∃ c:Fe.E,c=⟨c0,c1,c2,c3,c4⟩:=⟨_,rfl⟩
 rw [← hc] at hcw hlo ⊢
 replace hR:Blk W5 GR 384 #[.int .u64 c.a0,.int .u64 c.a1,.int .u64 c.a2,.int .u64 c.a3,.int .u64 c.a4]:=by rw [hc];exact hR
 clear hc e0 e1 e2 e3 e4
 go_loopw [5] (fun t wr=>∃ k:Nat,k≤9∧t=.int .i64 ((k:Int)-1)∧∃ d:Fe.E,Fe.W d∧0≤Sc.V d∧Sc.V d<LI*2 ^ k∧Sc.V d % LI=Sc.V c % LI∧Blk wr GR 384 #[.int .u64 d.a0,.int .u64 d.a1,.int .u64 d.a2,.int .u64 d.a3,.int .u64 d.a4]∧w.grownBy wr (some GR)) (fun t _=>(intOf t+1).toNat)
 case atStart=>exact ⟨9,by decide,rfl,c,hcw.out,hlo.out.1,hlo.out.2,rfl,hR,hg⟩
 case round =>
  clear hR hg hcw hlo
  obtain ⟨k,hk,ht,d,hw,hv0,hv1,hv2,hR,hg⟩:=hrel
  subst ht
  by_cases h0:k=0
  ·subst h0
   have hP:PostRest (Sc.V c % LI) GR w (.returned (.tuple #[])) wr:=⟨rfl,d,hw,by rw [← hv2,Int.emod_eq_of_lt hv0 (by simpa using hv1)],hR,hg⟩
   replace hP:=Lib.hid hP
   clear hv0 hv1 hv2 hR hg hw hk
   go_wp2
   go_returns
   exact hP.out
  obtain ⟨j,rfl⟩:∃ j,k=j+1:=⟨k-1,by omega⟩
  have hm:=fun W hR=>sminus_c d hw GR W hR j (by omega)
  replace hm:=Lib.hid hm
  replace hw:=Lib.hid hw
  replace hv0:=Lib.hid hv0
  replace hv1:=Lib.hid hv1
  replace hv2:=Lib.hid hv2
  replace hg:=Lib.hid hg
  have hj0:(0:Int)≤(j:Int):=by omega
  have hj1:(j:Int)≤8:=by omega
  have hjj:((j+1:Nat):Int)-1=(j:Int):=by omega
  rw [hjj]
  clear hjj h0 hk
  go_wp2_with fail
  refine (hm.out _ hR).mono ?_
  rintro e w1 ⟨rfl,d1,hw1,hv,hR1,hg1⟩
  have hlt:LI*2 ^ (j+1)=LI*2 ^ j*2:=by rw [Int.pow_succ,← Int.mul_assoc]
  have hb:0≤Sc.V d1∧Sc.V d1<LI*2 ^ j∧Sc.V d1 % LI=Sc.V c % LI:=by
   have h0:=hv0.out
   have h1:=hv1.out
   rw [hlt] at h1
   rw [hv]
   by_cases h:Sc.V d<LI*2 ^ j
   ·rw [if_pos h]
    exact ⟨h0,h,hv2.out⟩
   rw [if_neg h]
   refine ⟨by omega,by omega,?_⟩
   rw [← hv2.out,Int.sub_mul_emod_self_left]
  clear hlt hv
  replace hb:=Lib.hid hb
  replace hw1:=Lib.hid hw1
  have hg2:=Lib.hid (Lib.grownBy_trans hg.out hg1)
  clear hg hg1 hv0 hv1 hv2 hw hm hR
  go_wp2
  exact ⟨⟨j,by omega,rfl,d1,hw1.out,hb.out.1,hb.out.2.1,hb.out.2.2,hR1,hg2.out⟩,by simp [intOf]⟩
end Go.Proofs.YtnopjabcdloepaaGreatDoor
