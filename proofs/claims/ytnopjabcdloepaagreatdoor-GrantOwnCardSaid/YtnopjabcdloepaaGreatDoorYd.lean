import Derived.Test.YtnopjabcdloepaaGreatDoorYa
import Derived.Test.YtnopjabcdloepaaGreatDoorFw4
namespace Fe
def bitOf (L i:Nat):Bool:=Nat.ble 6 i||Nat.beq ((64-L) / 2 ^ i % 2) 1
theorem bitOf_hi (L i:Nat) (h:6≤i):bitOf L i=true:=by
 unfold bitOf
 rw [Nat.ble_eq_true_of_le h,Bool.true_or]
theorem bitOf_lo (L i:Nat) (_h1:1≤L) (_h2:L≤31) (h:i<6):bitOf L i=Nat.beq ((64-L) / 2 ^ i % 2) 1:=by
 unfold bitOf
 have:Nat.ble 6 i=false:=by
  rw [← Bool.not_eq_true,Nat.ble_eq];omega
 rw [this,Bool.false_or]
def pw (a:E) (n L:Nat):Nat→E
 | 0=>⟨1,0,0,0,0⟩
 | k+1=>if bitOf L (n-1-k)=true then mulE (mulE (pw a n L k) (pw a n L k)) a else mulE (pw a n L k) (pw a n L k)
theorem pw_w (a:E) (n L:Nat):∀ k,W (pw a n L k)
 | 0=>by simp only [pw,W];omega
 | k+1=>by
  simp only [pw]
  split <;> exact mulE_w _ _
theorem pw_r {a:E} (ha:R a) (n L:Nat):∀ k,R (pw a n L k)
 | 0=>by simp only [pw,R];omega
 | k+1=>by
  have ih:=pw_r ha n L k
  simp only [pw]
  split
  ·exact (mulE_r (mulE_r ih ih).1 ha).1
  exact (mulE_r ih ih).1
def nv (a:E):Nat:=(val a % p).toNat
theorem p_pos:0<p:=by decide
def P:Nat:=57896044618658097711785492504343953926634992332820282019728792003956564819949
theorem p_eq:p=(P:Int):=rfl
theorem nv_lt (a:E):nv a<P:=by
 have h1:=Int.emod_nonneg (val a) (show p≠0 by decide)
 have h2:=Int.emod_lt_of_pos (val a) p_pos
 have h3:=p_eq
 unfold nv
 omega
theorem nv_int (a:E):(nv a:Int)=val a % p:=Int.toNat_of_nonneg (Int.emod_nonneg _ (by decide))
theorem nv_of {a:E} {x:Int} {n:Nat} (h:∃ k,val a=x+p*k) (hx:x % p=(n % P:Nat)):nv a=n % P:=by
 obtain ⟨k,hk⟩:=h
 have h1:=nv_int a
 rw [hk,Int.add_mul_emod_self_left,hx] at h1
 omega
theorem nv_add {a b:E} (ha:R a) (hb:R b):nv (addE a b)=(nv a+nv b) % P:=by
 refine nv_of (addE_r ha hb).2 ?_
 rw [Int.add_emod,← nv_int,← nv_int,p_eq]
 rfl
theorem nv_mul {a b:E} (ha:R a) (hb:R b):nv (mulE a b)=nv a*nv b % P:=by
 refine nv_of (mulE_r ha hb).2 ?_
 rw [Int.mul_emod,← nv_int,← nv_int,p_eq]
 rfl
theorem nv_sub {a b:E} (ha:R a) (hb:R b):nv (subE a b)=(nv a+(P-nv b)) % P:=by
 refine nv_of (subE_r ha hb).2 ?_
 have h1:=nv_lt b
 have e:((nv a+(P-nv b)) % P:Nat)=(((nv a:Int)-(nv b:Int)) % (P:Int)):=by
  have:((nv a+(P-nv b):Nat):Int)=(nv a:Int)-(nv b:Int)+P:=by omega
  rw [Int.natCast_emod,this,Int.add_emod_right]
 rw [e,Int.sub_emod,← nv_int,← nv_int,p_eq]
def chk (n L:Nat):Bool:=(List.range n).all fun k=>Nat.beq ((2 ^ n-L) / 2 ^ (n-1-k) % 2) (if bitOf L (n-1-k) then 1 else 0)
theorem nv_pw {a:E} (ha:R a) {n L:Nat} (hc:chk n L=true) (hL:L≤2 ^ n) (h1:1≤L):∀ k,k≤n→nv (pw a n L k)=nv a ^ ((2 ^ n-L) / 2 ^ (n-k)) % P
 | 0,_=>by
  have e:(2 ^ n-L) / 2 ^ (n-0)=0:=Nat.div_eq_of_lt (by rw [Nat.sub_zero];omega)
  rw [e,Nat.pow_zero]
  show nv ⟨1,0,0,0,0⟩=1 % P
  decide +kernel
 | k+1,hk=>by
  have ih:=nv_pw ha hc hL h1 k (by omega)
  have hr:=pw_r ha n L k
  have hb:=List.all_eq_true.1 hc k (List.mem_range.2 (by omega))
  have hb':=Nat.eq_of_beq_eq_true hb
  have e1:n-k=(n-(k+1))+1:=by omega
  have e2:n-1-k=n-(k+1):=by omega
  rw [e2] at hb'
  rw [e1,Nat.pow_succ,← Nat.div_div_eq_div_mul] at ih
  generalize (2 ^ n-L) / 2 ^ (n-(k+1))=x at *
  have hx:=Nat.div_add_mod x 2
  simp only [pw,e2]
  by_cases hbit:bitOf L (n-(k+1))=true
  ·rw [if_pos hbit] at hb' ⊢
   rw [nv_mul (mulE_r hr hr).1 ha,nv_mul hr hr,ih,← Nat.mul_mod,Nat.mod_mul_mod,← Nat.pow_add,← Nat.pow_succ]
   congr 2
   omega
  rw [if_neg hbit] at hb' ⊢
  rw [nv_mul hr hr,ih,← Nat.mul_mod,← Nat.pow_add]
  congr 2
  omega
theorem chk252:chk 252 3=true:=by decide +kernel
theorem chk253:chk 253 5=true:=by decide +kernel
end Fe
namespace Go.Proofs.YtnopjabcdloepaaGreatDoor
open Go.RowKit
theorem and1 (x:Nat) (h:x<64):(bits .and .u64 (x:Int) 1==1)=Nat.beq (x % 2) 1:=by
 have e:bits .and .u64 (x:Int) 1=((x % 2:Nat):Int):=by
  have:=u64_and_nat x 1 (by omega) (by omega)
  rw [nat_mask1] at this
  exact this
 rw [e]
 have:x % 2=0∨x % 2=1:=by omega
 rcases this with h | h <;> rw [h] <;> rfl
set_option maxRecDepth 20000 in
set_option maxHeartbeats 400000 in
theorem bit_c (g:Nat) (i L:Nat) (h1:1≤L) (h2:L≤31) (w:World) (hc:w.cell? ⟨g,0,none⟩=some (.int .u64 L)) :
  Calls Tryz.prog 354 #[.int .i64 i,.pointer (some ⟨g,0,none⟩)] w fun e w'=>e=.returned (.bool (Fe.bitOf L i))∧w=w':=by
 by_cases h:6≤i
 ·have hb:=Lib.hid (Fe.bitOf_hi L i h)
  go_enter Tryz.func354,Tryz.ntmps354
  go_wp2
  go_ret
  exact ⟨by rw [hb.out];rfl,rfl⟩
 have hb:=Lib.hid (Fe.bitOf_lo L i h1 h2 (by omega))
 have hi:i=0∨i=1∨i=2∨i=3∨i=4∨i=5:=by omega
 have hw:IntKind.u64.wrap (64-(L:Int))=64-(L:Int):=by rw [IntKind.wrap_u64];omega
 have hx:=Lib.hid (show (64:Int)-(L:Int)=((64-L:Nat):Int) by omega)
 have hL:=Lib.hid h2
 rcases hi with rfl | rfl | rfl | rfl | rfl | rfl
 all_goals
  go_enter Tryz.func354,Tryz.ntmps354
  go_wp2
  go_ret
  refine ⟨?_,rfl⟩
  rw [hb.out]
  show Ending.returned (.bool (bits .and .u64 _ 1==1))=_
  rw [hx.out]
  first
   | (rw [and1 (64-L) (by omega)];simp)
   | (rw [show ((64-L:Nat):Int) / 2=(((64-L) / 2:Nat):Int) from rfl,and1 _ (by omega)])
   | (rw [show ((64-L:Nat):Int) / 4=(((64-L) / 4:Nat):Int) from rfl,and1 _ (by omega)])
   | (rw [show ((64-L:Nat):Int) / 8=(((64-L) / 8:Nat):Int) from rfl,and1 _ (by omega)])
   | (rw [show ((64-L:Nat):Int) / 16=(((64-L) / 16:Nat):Int) from rfl,and1 _ (by omega)])
   | (rw [show ((64-L:Nat):Int) / 32=(((64-L) / 32:Nat):Int) from rfl,and1 _ (by omega)])
def PwI (a x:Fe.E) (L B:Nat) (w0 wr:World):Prop:=Blk wr B 202 #[.int .u64 a.a0,.int .u64 a.a1,.int .u64 a.a2,.int .u64 a.a3,.int .u64 a.a4]∧Blk wr (B+1+1+1+1) 202 #[.int .u64 x.a0,.int .u64 x.a1,.int .u64 x.a2,.int .u64 x.a3,.int .u64 x.a4]∧Blk wr (B+1) 200 #[.int .u64 L]∧Blk wr (B+1+1) 202 #[.int .u64 0,.int .u64 0,.int .u64 0,.int .u64 0,.int .u64 0]∧Below B w0 wr
set_option maxRecDepth 20000 in
set_option maxHeartbeats 400000 in
theorem one_x (w:World):Calls Tryz.prog 254 #[] w fun e w'=>e=.returned (.agg #[.int .u64 1,.int .u64 0,.int .u64 0,.int .u64 0,.int .u64 0])∧w'=w.alloc (.cells #[.int .u64 1,.int .u64 0,.int .u64 0,.int .u64 0,.int .u64 0] 202):=by
 go_enter Tryz.func254,Tryz.ntmps254
 go_wp2
 go_returns
 exact ⟨rfl,rfl⟩
def set5 (w:World) (g:Nat) (y:Fe.E):World:=((((w.setCell ⟨g,0,none⟩ (.int .u64 y.a0)).setCell ⟨g,1,none⟩ (.int .u64 y.a1)).setCell ⟨g,2,none⟩ (.int .u64 y.a2)).setCell ⟨g,3,none⟩ (.int .u64 y.a3)).setCell ⟨g,4,none⟩ (.int .u64 y.a4)
theorem set5_far {w:World} {g h:Nat} {t:TypeId} {cs:Array Value} (hb:Blk w h t cs) (hne:h≠g) (y:Fe.E):Blk (set5 w g y) h t cs :=
 ((((hb.far (p:=⟨g,0,none⟩) hne _).far (p:=⟨g,1,none⟩) hne _).far (p:=⟨g,2,none⟩) hne _).far (p:=⟨g,3,none⟩) hne _).far (p:=⟨g,4,none⟩) hne _
theorem set5_same {w:World} {g:Nat} {t:TypeId} {x0 x1 x2 x3 x4:Value} (hb:Blk w g t #[x0,x1,x2,x3,x4]) (y:Fe.E):Blk (set5 w g y) g t #[.int .u64 y.a0,.int .u64 y.a1,.int .u64 y.a2,.int .u64 y.a3,.int .u64 y.a4] :=
 ((((hb.set_ 0 _).set_ 1 _).set_ 2 _).set_ 3 _).set_ 4 _
theorem set5_below {w0 w:World} {B g:Nat} (hb:Below B w0 w) (hg:B≤g) (y:Fe.E):Below B w0 (set5 w g y) :=
 ((((hb.setCell (p:=⟨g,0,none⟩) hg _).setCell (p:=⟨g,1,none⟩) hg _).setCell (p:=⟨g,2,none⟩) hg _).setCell (p:=⟨g,3,none⟩) hg _).setCell (p:=⟨g,4,none⟩) hg _
theorem pwI_step {a x:Fe.E} {L B:Nat} {w0 wr w2:World} (h:PwI a x L B w0 wr) (hb:Below wr.heap.size wr w2) (y:Fe.E):PwI a y L B w0 (set5 w2 (B+1+1+1+1) y):=by
 obtain ⟨hA,hO,hC,hR,hb0⟩:=h
 have hl:=hO.lt
 exact ⟨set5_far (hA.below hb) (by omega) y,set5_same (hO.below hb) y,set5_far (hC.below hb) (by omega) y,set5_far (hR.below hb) (by omega) y,set5_below (hb0.trans (hb.mono (by omega))) (by omega) y⟩
theorem pwI_cells {a x:Fe.E} {L B:Nat} {w0 wr w2:World} (h:PwI a x L B w0 wr) (hb:Below wr.heap.size wr w2):(∀ j,w2.frozen? ⟨B+1+1+1+1,j,none⟩=false) ∧
  w2.cell? ⟨B+1+1+1+1,0,none⟩=some (.int .u64 x.a0)∧w2.cell? ⟨B+1+1+1+1,1,none⟩=some (.int .u64 x.a1)∧w2.cell? ⟨B+1+1+1+1,2,none⟩=some (.int .u64 x.a2)∧w2.cell? ⟨B+1+1+1+1,3,none⟩=some (.int .u64 x.a3)∧w2.cell? ⟨B+1+1+1+1,4,none⟩=some (.int .u64 x.a4) :=
 ⟨fun j=>(h.2.1.below hb).frozen j,blk5 (h.2.1.below hb)⟩
theorem calls_at {P:Program} {f:FuncId} {args:Array Value} {W:World} {R:Ending→World→Prop} (h:∀ W0,W0=W→Calls P f args W0 R):Calls P f args W R:=h W rfl
set_option maxRecDepth 20000 in
set_option maxHeartbeats 1000000 in
theorem power_E (a:Fe.E) (hw:Fe.W a) (n L:Nat) (hn:n≤1000) (h1:1≤L) (h2:L≤31) (w:World) :
  Calls Tryz.prog 323 #[.agg #[.int .u64 a.a0,.int .u64 a.a1,.int .u64 a.a2,.int .u64 a.a3,.int .u64 a.a4],.int .i64 n,.int .u64 L] w (PostE (Fe.pw a n L n) w):=by
 have hmf:∀ (fn:Fn) (first cap:Array Value) (w:World),(Instr.makeFunc fn first cap).run Tryz.prog w=.ok (.func fn first cap) w:=fun _ _ _ _=>rfl
 go_enter Tryz.func323,Tryz.ntmps323
 go_wp2_with fail
 refine (one_x _).mono ?_
 rintro e w1 ⟨rfl,rfl⟩
 go_wp2
 go_loopw [9] (fun i wr=>∃ m:Nat,m≤n∧i=.int .i64 ((m:Int)-1)∧PwI a (Fe.pw a n L (n-m)) L w.heap.size w wr) (fun i _=>(intOf i+1).toNat)
 case atStart =>
  refine ⟨n,Nat.le_refl _,rfl,?_,?_,?_,?_,?_⟩
  ·exact ((((Blk.new _ _ _).alloc _).alloc _).alloc _).alloc _
  ·rw [Nat.sub_self];exact blk_at (by simp) (Blk.new _ _ _)
  ·exact blk_at (by simp) ((((Blk.new _ _ _).alloc _).alloc _).alloc _)
  ·exact blk_at (by simp) (((Blk.new _ _ _).alloc _).alloc _)
  go_grown
 case round =>
  obtain ⟨m,hm,hi,hI⟩:=hrel
  by_cases h0:m=0
  ·subst h0
   have hi':u9=.int .i64 (-1):=hi
   subst hi'
   obtain ⟨hA,hO,hC,hR,hb0⟩:=hI
   obtain ⟨c0,c1,c2,c3,c4⟩:=blk5 hO
   obtain ⟨r0,r1,r2,r3,r4⟩:=blk5 hR
   have fz:=fun j=>hR.frozen j
   rw [Nat.sub_zero] at c0 c1 c2 c3 c4
   clear hm hi
   go_wp2
   refine bodyPost_ret (v:=.agg #[.int .u64 (Fe.pw a n L n).a0,.int .u64 (Fe.pw a n L n).a1,.int .u64 (Fe.pw a n L n).a2,.int .u64 (Fe.pw a n L n).a3,.int .u64 (Fe.pw a n L n).a4]) (by simp [results,Tryz.results323,go_sem,r0,r1,r2,r3,r4]) rfl ?_
   refine ⟨rfl,?_⟩
   clear c0 c1 c2 c3 c4 r0 r1 r2 r3 r4 fz
   go_grown
  obtain ⟨j,rfl⟩:∃ j,m=j+1:=⟨m-1,by omega⟩
  have hi':u9=.int .i64 (j:Int):=by rw [hi];congr 1;omega
  subst hi'
  have hj0:(0:Int)≤(j:Int):=by omega
  have hj1:(j:Int)≤1000:=by omega
  have hxw:Fe.W (Fe.pw a n L (n-(j+1))):=Fe.pw_w a n L _
  have ek:n-j=(n-(j+1))+1:=by omega
  have ei:n-1-(n-(j+1))=j:=by omega
  have hnext:=Lib.hid (show Fe.pw a n L (n-j)=if Fe.bitOf L j=true then Fe.mulE (Fe.mulE (Fe.pw a n L (n-(j+1))) (Fe.pw a n L (n-(j+1)))) a else Fe.mulE (Fe.pw a n L (n-(j+1))) (Fe.pw a n L (n-(j+1))) by rw [ek,Fe.pw,ei])
  clear ek ei hi h0
  generalize Fe.pw a n L (n-(j+1))=x at *
  have hI0:=hI
  obtain ⟨hA,hO,hC,hR,hb0⟩:=hI
  obtain ⟨c0,c1,c2,c3,c4⟩:=blk5 hO
  go_wp2_with fail
  refine (square_E x hxw _).mono ?_
  rintro e w2 ⟨rfl,hb2⟩
  have hI2:=pwI_step hI0 hb2 (Fe.mulE x x)
  obtain ⟨fz,d0,d1,d2,d3,d4⟩:=pwI_cells hI0 hb2
  clear c0 c1 c2 c3 c4 hA hO hC hR hb0 hI0 hb2
  go_wp2_with fail
  refine calls_at (fun W0 hW=>?_)
  have hI3:PwI a (Fe.mulE x x) L w.heap.size w W0:=by rw [hW];exact hI2
  clear hI2 hW fz d0 d1 d2 d3 d4
  refine (bit_c _ _ _ h1 h2 _ (hI3.2.2.1.cell 0)).mono ?_
  rintro e w3 ⟨rfl,rfl⟩
  by_cases hbit:Fe.bitOf L j=true
  ·have hnx:=hnext.out
   rw [if_pos hbit] at hnx
   have hnx:=Lib.hid hnx
   clear hnext
   obtain ⟨hA,hO,hC,hR,hb0⟩:=hI3
   obtain ⟨c0,c1,c2,c3,c4⟩:=blk5 hO
   obtain ⟨a0,a1,a2,a3,a4⟩:=blk5 hA
   have hI4:PwI a (Fe.mulE x x) L w.heap.size w W0:=⟨hA,hO,hC,hR,hb0⟩
   go_wp2_with fail
   refine (mul_E (Fe.mulE x x) a (Fe.mulE_w _ _) hw _).mono ?_
   rintro e w4 ⟨rfl,hb4⟩
   have hI5:=pwI_step hI4 hb4 (Fe.mulE (Fe.mulE x x) a)
   obtain ⟨fz,d0,d1,d2,d3,d4⟩:=pwI_cells hI4 hb4
   clear c0 c1 c2 c3 c4 hA hO hC hR hb0 hI4 hb4 a0 a1 a2 a3 a4
   go_wp2
   exact ⟨⟨j,by omega,rfl,by rw [hnx.out];exact hI5⟩,by simp [intOf]⟩
  have hnx:=hnext.out
  rw [if_neg hbit] at hnx
  have hnx:=Lib.hid hnx
  clear hnext
  have hbit':Fe.bitOf L j=false:=by simpa using hbit
  clear hbit
  go_wp2
  exact ⟨⟨j,by omega,rfl,by rw [hnx.out];exact hI3⟩,by simp [intOf]⟩
end Go.Proofs.YtnopjabcdloepaaGreatDoor
namespace Go.Proofs.YtnopjabcdloepaaGreatDoor
open Go.RowKit
set_option maxRecDepth 20000 in
set_option maxHeartbeats 400000 in
theorem invert_E (a:Fe.E) (hw:Fe.W a) (w:World) :
  Calls Tryz.prog 301 #[.agg #[.int .u64 a.a0,.int .u64 a.a1,.int .u64 a.a2,.int .u64 a.a3,.int .u64 a.a4]] w (PostE (Fe.pw a 255 21 255) w):=by
 have hp:=power_E a hw 255 21 (by decide) (by decide) (by decide)
 generalize hx:Fe.pw a 255 21 255=x at hp ⊢
 clear hx
 go_enter Tryz.func301,Tryz.ntmps301
 go_wp2_with fail
 refine (hp _).mono ?_
 rintro e w1 ⟨rfl,hb⟩
 obtain ⟨hc,hf⟩:=bcell hb
 go_wp2
 refine bodyPost_ret (v:=.agg #[.int .u64 x.a0,.int .u64 x.a1,.int .u64 x.a2,.int .u64 x.a3,.int .u64 x.a4]) (by simp [results,Tryz.results301,go_sem,hc]) rfl ?_
 refine ⟨rfl,?_⟩
 clear hc hf
 go_grown
 exact (((Below.refl _ _).alloc (Nat.le_refl _) _).alloc (by simp) _).trans (hb.mono (by simp;omega))
set_option maxRecDepth 20000 in
set_option maxHeartbeats 400000 in
theorem zero_E (a:Fe.E) (hw:Fe.W a) (w:World) :
  Calls Tryz.prog 257 #[.agg #[.int .u64 a.a0,.int .u64 a.a1,.int .u64 a.a2,.int .u64 a.a3,.int .u64 a.a4]] w (PostV (.bool (eqE (Fe.canon a) ⟨0,0,0,0,0⟩)) w):=by
 have he:=fun w=>run_eql_E (Fe.canon a) ⟨0,0,0,0,0⟩ w
 have hp:=canonical_E a hw
 generalize Fe.canon a=x at hp he ⊢
 go_enter Tryz.func257,Tryz.ntmps257
 go_wp2_with fail
 refine (hp _).mono ?_
 rintro e w1 ⟨rfl,hb⟩
 go_wp2
 go_returns
 exact ⟨rfl,((Below.refl _ _).alloc (Nat.le_refl _) _).trans (hb.mono (by simp))⟩
theorem index0_E (x:Fe.E) (w:World):(Instr.index 202 (.agg #[.int .u64 x.a0,.int .u64 x.a1,.int .u64 x.a2,.int .u64 x.a3,.int .u64 x.a4]) (.int .i64 0)).run Tryz.prog w=.ok (.int .u64 x.a0) w:=by
 have hs:∀ w,(sizeOf 200).run Tryz.prog w=.ok 1 w:=by
  intro w
  have:=u64_size
  cases hq:Tryz.prog.info? 200 with
  | none=>simp [hq] at this
  | some i=>simp [hq] at this;simp [sizeOf,typeInfo,hq,this]
 have hag:∀ w,(isAgg 200).run Tryz.prog w=.ok false w:=by
  intro w
  simp [isAgg,run_underlying u64_under]
 simp [Instr.index,asIntOf,run_underlying elem_under,hs,part,hag]
set_option maxRecDepth 20000 in
set_option maxHeartbeats 400000 in
theorem odd_E (a:Fe.E) (hw:Fe.W a) (hd:0≤(Fe.canon a).a0∧(Fe.canon a).a0≤18446744073709551615) (w:World) :
  Calls Tryz.prog 303 #[.agg #[.int .u64 a.a0,.int .u64 a.a1,.int .u64 a.a2,.int .u64 a.a3,.int .u64 a.a4]] w (PostV (.bool (decide ((Fe.canon a).a0 % 2=1))) w):=by
 have hp:=canonical_E a hw
 generalize Fe.canon a=x at hp hd ⊢
 have hi:=index0_E x
 go_enter Tryz.func303,Tryz.ntmps303
 go_wp2_with fail
 refine (hp _).mono ?_
 rintro e w1 ⟨rfl,hb⟩
 go_wp2
 go_returns
 refine ⟨?_,((Below.refl _ _).alloc (Nat.le_refl _) _).trans (hb.mono (by simp))⟩
 obtain ⟨h0,h1⟩:=hd
 show Ending.returned (.bool (bits .and .u64 x.a0 1==1))=_
 rw [show bits .and .u64 x.a0 1=x.a0 % 2 from bits_mask .u64 64 (by decide) (fun n h h'=>by rw [IntKind.wrap_u64];omega) 1 (by decide) x.a0 h0 (by omega)]
 rfl
end Go.Proofs.YtnopjabcdloepaaGreatDoor
namespace Fe
def limb (x:E):Nat→Int
 | 0=>x.a0
 | 1=>x.a1
 | 2=>x.a2
 | 3=>x.a3
 | _=>x.a4
def bit (x:E) (m:Nat):Int:=limb x (m / 51) / 2 ^ (m % 51) % 2
def pb (x:E):Nat→Nat→Int
 | 0,_=>0
 | k+1,j=>if j=k / 8 then pb x k j+bit x k*2 ^ (k % 8) else pb x k j
theorem bit_01 (x:E) (m:Nat):0≤bit x m∧bit x m≤1:=by unfold bit;omega
theorem pb_lt (x:E):∀ k j,0≤pb x k j∧pb x k j<2 ^ (min 8 (k-8*j))
 | 0,j=>by simp [pb]
 | k+1,j=>by
  have ih:=pb_lt x k j
  have hb:=bit_01 x k
  simp only [pb]
  split
  ·rename_i h
   have e1:min 8 (k-8*j)=k % 8:=by omega
   have e2:min 8 (k+1-8*j)=k % 8+1:=by omega
   rw [e1] at ih
   rw [e2,Int.pow_succ]
   have h2:(0:Int)<2 ^ (k % 8):=Int.pow_pos (by decide)
   generalize (2:Int) ^ (k % 8)=q at *
   have:bit x k=0∨bit x k=1:=by omega
   rcases this with h | h <;> rw [h] <;> omega
  have hle:(2:Int) ^ (min 8 (k-8*j))≤2 ^ (min 8 (k+1-8*j)):=by
   have:=Nat.pow_le_pow_right (n:=2) (by decide) (show min 8 (k-8*j)≤min 8 (k+1-8*j) by omega)
   exact_mod_cast this
  omega
end Fe
namespace Go.Proofs.YtnopjabcdloepaaGreatDoor
open Go.RowKit
def putV (x:Fe.E) (k:Nat):Array Value:=((List.range 32).map fun j=>Value.int .u8 (Fe.pb x k j)).toArray
theorem putV_get (x:Fe.E) (k j:Nat) (h:j<32):(putV x k)[j]?=some (.int .u8 (Fe.pb x k j)):=by
 simp [putV,h]
theorem putV_set (x:Fe.E) (k:Nat):(putV x k).setIfInBounds (k / 8) (.int .u8 (Fe.pb x k (k / 8)+Fe.bit x k*2 ^ (k % 8)))=putV x (k+1):=by
 apply Array.ext_getElem?
 intro j
 by_cases hj:j<32
 ·rw [putV_get x (k+1) j hj]
  by_cases e:k / 8=j
  ·subst e
   simp [putV,Fe.pb,hj]
  have e':¬ j=k / 8:=fun h=>e h.symm
  simp [putV,Fe.pb,hj,e,e']
 have h1:(putV x (k+1))[j]?=none:=by simp [putV];omega
 rw [h1]
 simp [putV];omega
theorem limb_get (x:Fe.E) (i:Nat) (h:i<5):(#[Value.int .u64 x.a0,.int .u64 x.a1,.int .u64 x.a2,.int .u64 x.a3,.int .u64 x.a4]:Array Value)[i]?=some (.int .u64 (Fe.limb x i)):=by
 have:i=0∨i=1∨i=2∨i=3∨i=4:=by omega
 rcases this with rfl | rfl | rfl | rfl | rfl <;> rfl
theorem and1_u64 (y:Int) (h0:0≤y) (h1:y<18446744073709551616):bits .and .u64 y 1=y % 2 :=
 bits_mask .u64 64 (by decide) (fun n h h'=>by rw [IntKind.wrap_u64];omega) 1 (by decide) y h0 (by omega)
theorem pow8 (r:Nat) (h:r<8):r=0∨r=1∨r=2∨r=3∨r=4∨r=5∨r=6∨r=7:=by omega
theorem or_u8 (r:Nat) (h:r<8) (b y:Int) (hb:b=0∨b=1) (h0:0≤y) (h1:y<2 ^ r):bits .or .u8 y (b % 256*2 ^ r % 256)=y+b*2 ^ r:=by
 have hc:∀ x y,bits .or .u8 x y=bits .or .u8 y x:=fun x y=>by simp only [bits,BitVec.or_comm]
 have hj:=fun x (hx0:0≤x) (hx:x % 2 ^ r=0) (hx1:x<2 ^ 8) (hy:y<2 ^ 8)=>bits_join .u8 8 (by decide) wraps_u8 r x y hx0 hx hx1 h0 h1 hy
 rcases hb with rfl | rfl <;> rcases pow8 r h with rfl | rfl | rfl | rfl | rfl | rfl | rfl | rfl <;> simp only [Int.reducePow] at * <;> rw [hc,hj _ (by decide) (by decide) (by decide) (by omega)] <;> omega
theorem limb_w {x:Fe.E} (h:Fe.W x) (i:Nat):0≤Fe.limb x i∧Fe.limb x i<18446744073709551616:=by
 simp only [Fe.W] at h
 unfold Fe.limb
 split <;> omega
theorem putbit {x:Fe.E} (h:Fe.W x) (m:Nat):bits .or .u8 (Fe.pb x m (m / 8)) (bits .and .u64 (Fe.limb x (m / 51) / 2 ^ (m % 51)) 1 % 256*2 ^ (m % 8) % 256)=Fe.pb x m (m / 8)+Fe.bit x m*2 ^ (m % 8):=by
 have hl:=limb_w h (m / 51)
 have h2:(0:Int)<2 ^ (m % 51):=Int.pow_pos (by decide)
 have hq0:0≤Fe.limb x (m / 51) / 2 ^ (m % 51):=Int.ediv_nonneg hl.1 (by omega)
 have hq1:Fe.limb x (m / 51) / 2 ^ (m % 51)≤Fe.limb x (m / 51):=Int.ediv_le_self _ hl.1
 rw [and1_u64 _ hq0 (by omega)]
 have hp:=Fe.pb_lt x m (m / 8)
 rw [show min 8 (m-8*(m / 8))=m % 8 by omega] at hp
 have hb:=Fe.bit_01 x m
 exact or_u8 (m % 8) (by omega) _ _ (by unfold Fe.bit at hb;omega) hp.1 hp.2
def PutI (x:Fe.E) (k g B:Nat) (w0 wr:World):Prop:=Blk wr B 202 #[.int .u64 x.a0,.int .u64 x.a1,.int .u64 x.a2,.int .u64 x.a3,.int .u64 x.a4]∧Blk wr g 5 (putV x k)∧Below B w0 wr∧B<g
set_option maxRecDepth 20000 in
set_option maxHeartbeats 1000000 in
theorem put_E (a:Fe.E) (hw:Fe.W a) (hd:Fe.W (Fe.canon a)) (w:World) :
  Calls Tryz.prog 302 #[.agg #[.int .u64 a.a0,.int .u64 a.a1,.int .u64 a.a2,.int .u64 a.a3,.int .u64 a.a4]] w fun e w'=>∃ g,w.heap.size≤g∧e=.returned (.slice (some ⟨g,0,none⟩) 32 32)∧Blk w' g 5 (putV (Fe.canon a) 255)∧Below w.heap.size w w':=by
 have hp:=canonical_E a hw
 have hmk:∀ w,(Instr.makeSlice 22 (.int .i64 32) (.int .i64 32)).run Tryz.prog w=.ok (.slice (some ⟨w.heap.size,0,none⟩) 32 32) (w.alloc (.cells (List.replicate 32 (.int .u8 0)).toArray 5)):=fun _=>by kernel_rfl
 generalize Fe.canon a=x at hp hd ⊢
 go_enter Tryz.func302,Tryz.ntmps302
 go_wp2_with fail
 refine (hp _).mono ?_
 rintro e w1 ⟨rfl,hb⟩
 have hA0:=(Blk.new w 202 #[.int .u64 a.a0,.int .u64 a.a1,.int .u64 a.a2,.int .u64 a.a3,.int .u64 a.a4]).below hb
 have hA1:=set5_same hA0 x
 have hB1:=set5_below ((Below.refl w.heap.size w).alloc (Nat.le_refl _) _ |>.trans (hb.mono (by simp))) (Nat.le_refl _) x
 have hc:=blk5 hA0
 have hf:=fun j=>hA0.frozen j
 go_wp2
 refine at_world (fun W0 hW=>?_)
 have hI0:∃ g,g=(set5 w1 w.heap.size x).heap.size∧PutI x 0 g w.heap.size w W0:=by
  refine ⟨_,rfl,?_⟩
  rw [hW]
  exact ⟨hA1.alloc _,Blk.new _ _ _,hB1.alloc (Nat.le_of_lt hA1.lt) _,hA1.lt⟩
 obtain ⟨g,hgg,hI0⟩:=hI0
 have hg:w1.heap.size=g:=by rw [hgg];simp [set5,World.setCell]
 rw [hg]
 clear hA0 hA1 hB1 hc hf hW hg hgg hb
 go_loopw [8] (fun i wr=>∃ m:Nat,m≤255∧i=.int .i64 m∧PutI x m g w.heap.size w wr) (fun i _=>(255-intOf i).toNat)
 case atStart=>exact ⟨0,by decide,rfl,hI0⟩
 case round =>
  obtain ⟨m,hm,hi,hI⟩:=hrel
  subst hi
  by_cases h255:m=255
  ·subst h255
   go_wp2
   go_returns
   exact ⟨g,(Nat.le_of_lt hI.2.2.2),rfl,hI.2.1,hI.2.2.1⟩
  have hm0:(0:Int)≤(m:Int):=by omega
  have hm1:(m:Int)<255:=by omega
  clear hm h255
  obtain ⟨hA,hG,hb0,hlt⟩:=hI
  have ca:=hA.cell (m / 51)
  rw [limb_get x (m / 51) (by omega)] at ca
  have cg:=hG.cell (m / 8)
  rw [putV_get x m (m / 8) (by omega)] at cg
  have fg:=fun j=>hG.frozen j
  go_wp2
  go_region
  rw [putbit hd m]
  have hA':=hA.far (p:=⟨g,m / 8,none⟩) (by simp;omega) (.int .u8 (Fe.pb x m (m / 8)+Fe.bit x m*2 ^ (m % 8)))
  have hG':=hG.set_ (m / 8) (.int .u8 (Fe.pb x m (m / 8)+Fe.bit x m*2 ^ (m % 8)))
  rw [putV_set] at hG'
  have hb':=hb0.setCell (p:=⟨g,m / 8,none⟩) (by simp;omega) (.int .u8 (Fe.pb x m (m / 8)+Fe.bit x m*2 ^ (m % 8)))
  clear ca cg fg hA hG hb0
  go_wp2
  exact ⟨⟨m+1,by omega,rfl,hA'.drew,hG'.drew,hb'.drew,hlt⟩,by simp [intOf];omega⟩
end Go.Proofs.YtnopjabcdloepaaGreatDoor
namespace Fe
def bbit (b:Nat→Int) (m:Nat):Int:=b (m / 8) / 2 ^ (m % 8) % 2
def gl (b:Nat→Int):Nat→Nat→Int
 | 0,_=>0
 | k+1,i=>if i=k / 51 then gl b k i+bbit b k*2 ^ (k % 51) else gl b k i
theorem bbit_01 (b:Nat→Int) (m:Nat):0≤bbit b m∧bbit b m≤1:=by unfold bbit;omega
theorem gl_lt (b:Nat→Int):∀ k i,0≤gl b k i∧gl b k i<2 ^ (min 51 (k-51*i))
 | 0,i=>by simp [gl]
 | k+1,i=>by
  have ih:=gl_lt b k i
  have hb:=bbit_01 b k
  simp only [gl]
  split
  ·rename_i h
   have e1:min 51 (k-51*i)=k % 51:=by omega
   have e2:min 51 (k+1-51*i)=k % 51+1:=by omega
   rw [e1] at ih
   rw [e2,Int.pow_succ]
   have h2:(0:Int)<2 ^ (k % 51):=Int.pow_pos (by decide)
   generalize (2:Int) ^ (k % 51)=q at *
   have:bbit b k=0∨bbit b k=1:=by omega
   rcases this with h | h <;> rw [h] <;> omega
  have hle:(2:Int) ^ (min 51 (k-51*i))≤2 ^ (min 51 (k+1-51*i)):=by
   have:=Nat.pow_le_pow_right (n:=2) (by decide) (show min 51 (k-51*i)≤min 51 (k+1-51*i) by omega)
   exact_mod_cast this
  omega
def getE (b:Nat→Int) (k:Nat):E:=⟨gl b k 0,gl b k 1,gl b k 2,gl b k 3,gl b k 4⟩
theorem getE_d (b:Nat→Int) (k:Nat):D (getE b k):=by
 have h:∀ i,0≤gl b k i∧gl b k i<2251799813685248:=fun i=>by
  have h1:=gl_lt b k i
  have h2:(2:Int) ^ (min 51 (k-51*i))≤2 ^ 51:=by
   have:=Nat.pow_le_pow_right (n:=2) (by decide) (show min 51 (k-51*i)≤51 by omega)
   exact_mod_cast this
  omega
 exact ⟨h 0,h 1,h 2,h 3,h 4⟩
theorem D.w {e:E} (h:D e):W e:=by simp only [D,W] at *;omega
end Fe
namespace Go.Proofs.YtnopjabcdloepaaGreatDoor
open Go.RowKit
def ev (x:Fe.E):Array Value:=#[.int .u64 x.a0,.int .u64 x.a1,.int .u64 x.a2,.int .u64 x.a3,.int .u64 x.a4]
theorem getE_limb (b:Nat→Int) (k i:Nat) (h:i<5):Fe.limb (Fe.getE b k) i=Fe.gl b k i:=by
 have:i=0∨i=1∨i=2∨i=3∨i=4:=by omega
 rcases this with rfl | rfl | rfl | rfl | rfl <;> rfl
theorem getV_set (b:Nat→Int) (k:Nat) (h:k<255):(ev (Fe.getE b k)).setIfInBounds (k / 51) (.int .u64 (Fe.gl b k (k / 51)+Fe.bbit b k*2 ^ (k % 51)))=ev (Fe.getE b (k+1)):=by
 have:k / 51=0∨k / 51=1∨k / 51=2∨k / 51=3∨k / 51=4:=by omega
 rcases this with e | e | e | e | e <;> simp [ev,Fe.getE,Fe.gl,e]
theorem or_u64 (r:Nat) (h:r<51) (b y:Int) (hb:b=0∨b=1) (h0:0≤y) (h1:y<2 ^ r):bits .or .u64 y (b*2 ^ r)=y+b*2 ^ r:=by
 have hc:∀ x y,bits .or .u64 x y=bits .or .u64 y x:=fun x y=>by simp only [bits,BitVec.or_comm]
 have hr:(2:Int) ^ r<2 ^ 64:=by
  have:=Nat.pow_lt_pow_right (a:=2) (by decide) (show r<64 by omega)
  exact_mod_cast this
 have hr0:(0:Int)<2 ^ r:=Int.pow_pos (by decide)
 have hj:=fun x (hx0:0≤x) (hx:x % 2 ^ r=0) (hx1:x<2 ^ 64)=>bits_join .u64 64 (by decide) (fun n h h'=>by rw [IntKind.wrap_u64];omega) r x y hx0 hx hx1 h0 h1 (by omega)
 rcases hb with rfl | rfl
 ·rw [hc,Int.zero_mul,hj 0 (by decide) (by simp) (by decide)];omega
 rw [hc,Int.one_mul,hj _ (by omega) (by simp) hr];omega
def GetI (b:Nat→Int) (k B:Nat) (w0 wr:World):Prop:=Blk wr (B+1) 202 (ev (Fe.getE b k))∧Blk wr B 202 #[.int .u64 0,.int .u64 0,.int .u64 0,.int .u64 0,.int .u64 0]∧Below B w0 wr
def getOk (b:Nat→Int):Bool := !(b 31 / 128==1)&&eqE (Fe.canon (Fe.getE b 255)) (Fe.getE b 255)
end Go.Proofs.YtnopjabcdloepaaGreatDoor
