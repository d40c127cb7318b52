import Derived.Test.YtnopjabcdloepaaGreatDoorYe
import Derived.Deep.AppendLies
import Derived.Test.YtnopjabcdloepaaGreatDoorZw
namespace Fe
def cE:E:=⟨929955233495203,466365720129213,1662059464998953,2033849074728123,1442794654840575⟩
def c2E:E:=⟨1859910466990425,932731440258426,1072319116312658,1815898335770999,633789495995903⟩
theorem cE_r:R cE:=by simp only [R,cE];omega
theorem c2E_r:R c2E:=by simp only [R,c2E];omega
def dN:Nat:=37095705934669439343138083508754565189542113879843219016388785533085940283555
theorem cE_nv:nv cE=dN:=by decide +kernel
theorem c2E_nv:nv c2E=(dN+dN) % P:=by decide +kernel
theorem dN_lt:dN<P:=by unfold dN P;decide
end Fe
namespace Go.Proofs.YtnopjabcdloepaaGreatDoor
open Go.RowKit
def El (x:Fe.E) (n:Nat):Prop:=Fe.R x∧Fe.nv x=n
theorem El.lt {x:Fe.E} {n:Nat} (h:El x n):n<Fe.P:=by rw [← h.2];exact Fe.nv_lt x
def PostF (n:Nat) (w:World) (e:Ending) (w':World):Prop:=∃ x:Fe.E,e=.returned (.agg #[.int .u64 x.a0,.int .u64 x.a1,.int .u64 x.a2,.int .u64 x.a3,.int .u64 x.a4])∧El x n∧Below w.heap.size w w'
def ElP (n:Nat):Value→World→Prop:=fun v _=>∃ x:Fe.E,v=.agg #[.int .u64 x.a0,.int .u64 x.a1,.int .u64 x.a2,.int .u64 x.a3,.int .u64 x.a4]∧El x n
theorem sta_el (n:Nat):Sta (ElP n):=fun _ _ _ h _=>h
theorem el_one:El ⟨1,0,0,0,0⟩ 1:=⟨Fe.R_one,Fe.nv_one⟩
theorem el_zero:El ⟨0,0,0,0,0⟩ 0:=⟨Fe.R_zero,Fe.nv_zero⟩
theorem fOne (w:World):Calls Tryz.prog 254 #[] w fun e w'=>e=.returned (.agg #[.int .u64 1,.int .u64 0,.int .u64 0,.int .u64 0,.int .u64 0])∧Below w.heap.size w w':=one_E w
theorem fAdd {x y:Fe.E} {a b:Nat} (hx:El x a) (hy:El y b) (w:World):Calls Tryz.prog 255 #[.agg #[.int .u64 x.a0,.int .u64 x.a1,.int .u64 x.a2,.int .u64 x.a3,.int .u64 x.a4],.agg #[.int .u64 y.a0,.int .u64 y.a1,.int .u64 y.a2,.int .u64 y.a3,.int .u64 y.a4]] w (PostF ((a+b) % Fe.P) w) :=
 (add_E x y w).mono fun _ _ h=>⟨_,h.1,⟨(Fe.addE_r hx.1 hy.1).1,by rw [Fe.nv_add hx.1 hy.1,hx.2,hy.2]⟩,h.2⟩
theorem fSub {x y:Fe.E} {a b:Nat} (hx:El x a) (hy:El y b) (w:World):Calls Tryz.prog 253 #[.agg #[.int .u64 x.a0,.int .u64 x.a1,.int .u64 x.a2,.int .u64 x.a3,.int .u64 x.a4],.agg #[.int .u64 y.a0,.int .u64 y.a1,.int .u64 y.a2,.int .u64 y.a3,.int .u64 y.a4]] w (PostF ((a+(Fe.P-b)) % Fe.P) w) :=
 (sub_E x y w).mono fun _ _ h=>⟨_,h.1,⟨(Fe.subE_r hx.1 hy.1).1,by rw [Fe.nv_sub hx.1 hy.1,hx.2,hy.2]⟩,h.2⟩
theorem fNeg {x:Fe.E} {a:Nat} (hx:El x a) (w:World):Calls Tryz.prog 258 #[.agg #[.int .u64 x.a0,.int .u64 x.a1,.int .u64 x.a2,.int .u64 x.a3,.int .u64 x.a4]] w (PostF ((Fe.P-a) % Fe.P) w) :=
 (neg_E x w).mono fun _ _ h=>⟨_,h.1,⟨(Fe.subE_r Fe.R_zero hx.1).1,by rw [Fe.nv_neg hx.1,hx.2]⟩,h.2⟩
theorem fMul {x y:Fe.E} {a b:Nat} (hx:El x a) (hy:El y b) (w:World):Calls Tryz.prog 256 #[.agg #[.int .u64 x.a0,.int .u64 x.a1,.int .u64 x.a2,.int .u64 x.a3,.int .u64 x.a4],.agg #[.int .u64 y.a0,.int .u64 y.a1,.int .u64 y.a2,.int .u64 y.a3,.int .u64 y.a4]] w (PostF (a*b % Fe.P) w) :=
 (mul_E x y hx.1.w hy.1.w w).mono fun _ _ h=>⟨_,h.1,⟨(Fe.mulE_r hx.1 hy.1).1,by rw [Fe.nv_mul hx.1 hy.1,hx.2,hy.2]⟩,h.2⟩
theorem fSquare {x:Fe.E} {a:Nat} (hx:El x a) (w:World):Calls Tryz.prog 251 #[.agg #[.int .u64 x.a0,.int .u64 x.a1,.int .u64 x.a2,.int .u64 x.a3,.int .u64 x.a4]] w (PostF (a*a % Fe.P) w) :=
 (square_E x hx.1.w w).mono fun _ _ h=>⟨_,h.1,⟨(Fe.mulE_r hx.1 hx.1).1,by rw [Fe.nv_mul hx.1 hx.1,hx.2]⟩,h.2⟩
theorem ex_inv:Fe.ex 255 21=Fe.P-2:=by unfold Fe.ex Fe.P;decide
theorem fInvert {x:Fe.E} {a:Nat} (hx:El x a) (w:World):Calls Tryz.prog 301 #[.agg #[.int .u64 x.a0,.int .u64 x.a1,.int .u64 x.a2,.int .u64 x.a3,.int .u64 x.a4]] w (PostF (a ^ (Fe.P-2) % Fe.P) w) :=
 (invert_E x hx.1.w w).mono fun _ _ h=>⟨_,h.1,⟨Fe.pw_r hx.1 _ _ _,by rw [Fe.nv_pwx hx.1 (by decide +kernel) (by decide) (by decide),hx.2,ex_inv]⟩,h.2⟩
theorem fSame {x y:Fe.E} {a b:Nat} (hx:El x a) (hy:El y b) (w:World):Calls Tryz.prog 259 #[.agg #[.int .u64 x.a0,.int .u64 x.a1,.int .u64 x.a2,.int .u64 x.a3,.int .u64 x.a4],.agg #[.int .u64 y.a0,.int .u64 y.a1,.int .u64 y.a2,.int .u64 y.a3,.int .u64 y.a4]] w (PostV (.bool (decide (a=b))) w):=by
 have h1:=same_E x y hx.1.w hy.1.w w
 rw [Fe.same_dec hx.1 hy.1,hx.2,hy.2] at h1
 exact h1
theorem fZero {x:Fe.E} {a:Nat} (hx:El x a) (w:World):Calls Tryz.prog 257 #[.agg #[.int .u64 x.a0,.int .u64 x.a1,.int .u64 x.a2,.int .u64 x.a3,.int .u64 x.a4]] w (PostV (.bool (decide (a=0))) w):=by
 have h1:=zero_E x hx.1.w w
 rw [Fe.zero_dec hx.1,hx.2] at h1
 exact h1
theorem fOdd {x:Fe.E} {a:Nat} (hx:El x a) (w:World):Calls Tryz.prog 303 #[.agg #[.int .u64 x.a0,.int .u64 x.a1,.int .u64 x.a2,.int .u64 x.a3,.int .u64 x.a4]] w (PostV (.bool (decide (a % 2=1))) w):=by
 have h1:=odd_E x hx.1.w ⟨(Fe.canon_d x).1.1,Int.le_trans (Int.le_of_lt (Fe.canon_d x).1.2) (by decide)⟩ w
 have e:decide ((Fe.canon x).a0 % 2=1)=decide (a % 2=1):=by
  rw [← hx.2]
  exact decide_eq_decide.2 (Fe.odd_iff hx.1)
 rw [e] at h1
 exact h1
theorem fSameV {x y:Fe.E} {a b:Nat} {v:Bool} (hx:El x a) (hy:El y b) (h:decide (a=b)=v) (w:World):Calls Tryz.prog 259 #[.agg #[.int .u64 x.a0,.int .u64 x.a1,.int .u64 x.a2,.int .u64 x.a3,.int .u64 x.a4],.agg #[.int .u64 y.a0,.int .u64 y.a1,.int .u64 y.a2,.int .u64 y.a3,.int .u64 y.a4]] w (PostV (.bool v) w):=by rw [← h];exact fSame hx hy w
theorem fZeroV {x:Fe.E} {a:Nat} {v:Bool} (hx:El x a) (h:decide (a=0)=v) (w:World):Calls Tryz.prog 257 #[.agg #[.int .u64 x.a0,.int .u64 x.a1,.int .u64 x.a2,.int .u64 x.a3,.int .u64 x.a4]] w (PostV (.bool v) w):=by rw [← h];exact fZero hx w
theorem fOddV {x:Fe.E} {a:Nat} {v:Bool} (hx:El x a) (h:decide (a % 2=1)=v) (w:World):Calls Tryz.prog 303 #[.agg #[.int .u64 x.a0,.int .u64 x.a1,.int .u64 x.a2,.int .u64 x.a3,.int .u64 x.a4]] w (PostV (.bool v) w):=by rw [← h];exact fOdd hx w
theorem el_c:El Fe.cE Fe.dN:=⟨Fe.cE_r,Fe.cE_nv⟩
theorem el_c2:El Fe.c2E ((Fe.dN+Fe.dN) % Fe.P):=⟨Fe.c2E_r,Fe.c2E_nv⟩
def PostRt (n:Nat) (b:Bool) (w:World) (e:Ending) (w':World):Prop:=∃ x:Fe.E,e=.returned (.tuple #[.agg #[.int .u64 x.a0,.int .u64 x.a1,.int .u64 x.a2,.int .u64 x.a3,.int .u64 x.a4],.bool b])∧El x n∧Below w.heap.size w w'
theorem fRoot {x y:Fe.E} {a b:Nat} (hx:El x a) (hy:El y b) (w:World):Calls Tryz.prog 252 #[.agg #[.int .u64 x.a0,.int .u64 x.a1,.int .u64 x.a2,.int .u64 x.a3,.int .u64 x.a4],.agg #[.int .u64 y.a0,.int .u64 y.a1,.int .u64 y.a2,.int .u64 y.a3,.int .u64 y.a4]] w (PostRt (Fe.rN a b) (Fe.bN a b) w):=by
 obtain ⟨h1,h2,h3⟩:=Fe.root_n hx.1 hy.1
 rw [hx.2,hy.2] at h1 h2
 refine (root_E x y hx.1.w hy.1.w w).mono fun _ _ h=>⟨_,?_,⟨h3,h2⟩,h.2⟩
 rw [← h1]
 exact h.1
theorem pt_size:(Tryz.prog.info? 204).map (·.size)=some 20:=by kernel_rfl
theorem el_size:(Tryz.prog.info? 202).map (·.size)=some 5:=by kernel_rfl
theorem pt_under:∃ d,Tryz.prog.underlying 204=some d∧(match d with | .struct _ | .array _ _=>true | _=>false)=true:=by
 cases h:Tryz.prog.underlying 204 with
 | none=>exact absurd (show (Tryz.prog.underlying 204).isSome=true by kernel_rfl) (by rw [h];decide)
 | some d=>exact ⟨d,rfl,by
   have:=show (match Tryz.prog.underlying 204 with | some (.struct _) | some (.array _ _)=>true | _=>false)=true by kernel_rfl
   rw [h] at this
   cases d <;> simp_all⟩
def PostP (a b c d:Nat) (w:World) (e:Ending) (w':World):Prop:=∃ x y z t:Fe.E,e=.returned (.agg #[.int .u64 x.a0,.int .u64 x.a1,.int .u64 x.a2,.int .u64 x.a3,.int .u64 x.a4,.int .u64 y.a0,.int .u64 y.a1,.int .u64 y.a2,.int .u64 y.a3,.int .u64 y.a4,.int .u64 z.a0,.int .u64 z.a1,.int .u64 z.a2,.int .u64 z.a3,.int .u64 z.a4,.int .u64 t.a0,.int .u64 t.a1,.int .u64 t.a2,.int .u64 t.a3,.int .u64 t.a4])∧El x a∧El y b∧El z c∧El t d∧Below w.heap.size w w'
def PtP (a b c d:Nat):Value→World→Prop:=fun v _=>∃ x y z t:Fe.E,v=.agg #[.int .u64 x.a0,.int .u64 x.a1,.int .u64 x.a2,.int .u64 x.a3,.int .u64 x.a4,.int .u64 y.a0,.int .u64 y.a1,.int .u64 y.a2,.int .u64 y.a3,.int .u64 y.a4,.int .u64 z.a0,.int .u64 z.a1,.int .u64 z.a2,.int .u64 z.a3,.int .u64 z.a4,.int .u64 t.a0,.int .u64 t.a1,.int .u64 t.a2,.int .u64 t.a3,.int .u64 t.a4]∧El x a∧El y b∧El z c∧El t d
theorem sta_pt (a b c d:Nat):Sta (PtP a b c d):=fun _ _ _ h _=>h
theorem retPt {fn:Func} {p:Tmp} {g:Nat} {tmps:Array Value} {D:List Deferred} {w:World} {R:Ending→World→Prop} {cs:Array Value} (h:fn.results=#[.cell p 204]) (hp:tmps.getD p undef=.pointer (some ⟨g,0,none⟩)) (hg:Blk w g 204 cs) (hs:cs.size=20) (hD:D=[]) (hR:R (.returned (.agg cs)) w):bodyPost Tryz.prog fn R .ret ⟨tmps,D⟩ w:=by
 obtain ⟨d,hd,hs2⟩:=pt_under
 exact bodyPost_ret (results_cell_row h tmps w g 204 cs (0,0) d hp hg hd (by revert hs2;cases d <;> exact fun h=>h) (by rw [hs];exact pt_size)) hD hR
section
variable {ops:Array Oper} {rest:List Oper} {o:Oper} {a:Act} {w:World} {Q:Exit→Act→World→Prop}
theorem ldPt (hgd:o.guard=none) {x:Operand} (ho:o.op=.load 204 x) {g:Nat} {ty:TypeId} {cs:Array Value} (hx:a.eval x=.pointer (some ⟨g,0,none⟩)) (hg:Blk w g ty cs) (hs:cs.size=20) (h:wpList Tryz.prog ops Q rest (a.put o.dst (.agg cs)) w):wpList Tryz.prog ops Q (o::rest) a w:=by
 obtain ⟨d,hd,hs2⟩:=pt_under
 exact wpList_load_row hgd 204 x ho g hx ty cs (0,0) d hg hd (by revert hs2;cases d <;> exact fun h=>h) (by rw [hs];exact pt_size) h
theorem stEl (hgd:o.guard=none) {x y:Operand} (ho:o.op=.store 202 x y) {g:Nat} {e:Fe.E} {old:Array Value} (hx:a.eval x=.pointer (some ⟨g,0,none⟩)) (hy:a.eval y=.agg #[.int .u64 e.a0,.int .u64 e.a1,.int .u64 e.a2,.int .u64 e.a3,.int .u64 e.a4]) (hg:Blk w g 202 old) (hs:old.size=5)
  (h:∀ w',Blk w' g 202 #[.int .u64 e.a0,.int .u64 e.a1,.int .u64 e.a2,.int .u64 e.a3,.int .u64 e.a4]→w.grownBy w' (some g)→w'.heap.size=w.heap.size→wpList Tryz.prog ops Q rest (a.put o.dst undef) w'):wpList Tryz.prog ops Q (o::rest) a w :=
 wpList_store_blk hgd 202 x y ho g 202 old _ hx hy hg hs el_size (by kernel_rfl) h
theorem stPt (hgd:o.guard=none) {x y:Operand} (ho:o.op=.store 204 x y) {g:Nat} {cs old:Array Value} {ty:TypeId} (hx:a.eval x=.pointer (some ⟨g,0,none⟩)) (hy:a.eval y=.agg cs) (hg:Blk w g ty old) (hs:old.size=cs.size) (hc:cs.size=20) (hone:cs.all (·.oneCell')=true)
  (h:∀ w',Blk w' g ty cs→w.grownBy w' (some g)→w'.heap.size=w.heap.size→wpList Tryz.prog ops Q rest (a.put o.dst undef) w'):wpList Tryz.prog ops Q (o::rest) a w :=
 wpList_store_blk hgd 204 x y ho g ty old cs hx hy hg hs (by rw [hc];exact pt_size) hone h
end
structure CvP (w:World):Prop where
 lt:3<w.heap.size
 c:∀ i,i<5→w.cell? ⟨0,i,none⟩=(#[.int .u64 929955233495203,.int .u64 466365720129213,.int .u64 1662059464998953,.int .u64 2033849074728123,.int .u64 1442794654840575]:Array Value)[i]?
 c2:∀ i,i<5→w.cell? ⟨2,i,none⟩=(#[.int .u64 1859910466990425,.int .u64 932731440258426,.int .u64 1072319116312658,.int .u64 1815898335770999,.int .u64 633789495995903]:Array Value)[i]?
theorem CvP.below {w w':World} {B:Nat} (h:CvP w) (hb:Below B w w') (hB:3<B):CvP w' :=
 ⟨Nat.lt_of_lt_of_le h.lt hb.size,fun i hi=>(hb.cell (p:=⟨0,i,none⟩) (by show 0<B;omega)).trans (h.c i hi),fun i hi=>(hb.cell (p:=⟨2,i,none⟩) (by show 2<B;omega)).trans (h.c2 i hi)⟩
theorem CvP.grown {w w':World} {g:Nat} (h:CvP w) (hg:w.grownBy w' (some g)) (hne:3<g):CvP w' :=
 ⟨Nat.lt_of_lt_of_le h.lt hg.size,fun i hi=>(hg.cell_far ⟨0,i,none⟩ (by have:=h.lt;show 0<_;omega) (fun e=>by have:0=g:=Option.some.inj e;omega)).trans (h.c i hi),fun i hi=>(hg.cell_far ⟨2,i,none⟩ (by have:=h.lt;show 2<_;omega) (fun e=>by have:2=g:=Option.some.inj e;omega)).trans (h.c2 i hi)⟩
theorem CvP.at0 {w:World} (h:CvP w):w.cell? ⟨0,0,none⟩=some (.int .u64 929955233495203)∧w.cell? ⟨0,1,none⟩=some (.int .u64 466365720129213)∧w.cell? ⟨0,2,none⟩=some (.int .u64 1662059464998953)∧w.cell? ⟨0,3,none⟩=some (.int .u64 2033849074728123)∧w.cell? ⟨0,4,none⟩=some (.int .u64 1442794654840575):=⟨h.c 0 (by decide),h.c 1 (by decide),h.c 2 (by decide),h.c 3 (by decide),h.c 4 (by decide)⟩
theorem CvP.at1 {w:World} (h:CvP w):w.cell? ⟨2,0,none⟩=some (.int .u64 1859910466990425)∧w.cell? ⟨2,1,none⟩=some (.int .u64 932731440258426)∧w.cell? ⟨2,2,none⟩=some (.int .u64 1072319116312658)∧w.cell? ⟨2,3,none⟩=some (.int .u64 1815898335770999)∧w.cell? ⟨2,4,none⟩=some (.int .u64 633789495995903):=⟨h.c2 0 (by decide),h.c2 1 (by decide),h.c2 2 (by decide),h.c2 3 (by decide),h.c2 4 (by decide)⟩
end Go.Proofs.YtnopjabcdloepaaGreatDoor
namespace Fe
instance instNeP:NeZero P:=⟨by unfold P;decide⟩
def zf (n:Nat):Fin P:=Fin.ofNat P n
theorem zf_mod (a:Nat):zf (a % P)=zf a:=by
 apply Fin.ext;show a % P % P=a % P;exact Nat.mod_mod _ _
theorem zf_add (a b:Nat):zf (a+b)=zf a+zf b:=by
 apply Fin.ext;show (a+b) % P=(a % P+b % P) % P;exact Nat.add_mod _ _ _
theorem zf_mul (a b:Nat):zf (a*b)=zf a*zf b:=by
 apply Fin.ext;show (a*b) % P=(a % P*(b % P)) % P;exact Nat.mul_mod _ _ _
theorem zf_P:zf P=0:=by
 apply Fin.ext;show P % P=0 % P;rw [Nat.mod_self,Nat.zero_mod]
theorem zf_sub (b:Nat) (h:b≤P):zf (P-b) = - zf b:=by
 have:zf (P-b)+zf b=0:=by rw [← zf_add,Nat.sub_add_cancel h,zf_P]
 grind
theorem zf_0:zf 0=0:=rfl
theorem zf_1:zf 1=1:=by apply Fin.ext;show 1 % P=1 % P;rfl
theorem zf_inj {a b:Nat} (ha:a<P) (hb:b<P):zf a=zf b↔a=b:=by
 constructor
 ·intro h
  have:=congrArg Fin.val h
  change a % P=b % P at this
  rwa [Nat.mod_eq_of_lt ha,Nat.mod_eq_of_lt hb] at this
 intro h;rw [h]
theorem zf_m1:zf (P-1) = -1:=by rw [zf_sub 1 (Nat.le_of_lt P_one),zf_1]
def uN (n:Nat):Nat:=(n*n % P+(P-1)) % P
def vN (n:Nat):Nat:=(dN*(n*n % P) % P+1) % P
def gB (n:Nat) (odd:Bool):Bool:=bN (uN n) (vN n) && !(odd&&decide (rN (uN n) (vN n)=0))
def gX (n:Nat) (odd:Bool):Nat:=if odd then (P-rN (uN n) (vN n)) % P else rN (uN n) (vN n)
theorem uN_lt (n:Nat):uN n<P:=Nat.mod_lt _ P_pos
theorem gX_lt (n:Nat) (odd:Bool):gX n odd<P:=by
 unfold gX
 split
 ·exact Nat.mod_lt _ P_pos
 exact rN_lt _ _
theorem zf_u (n:Nat):zf (uN n)=zf n*zf n-1:=by
 unfold uN
 rw [zf_mod,zf_add,zf_mod,zf_mul,zf_m1]
 grind
theorem zf_v (n:Nat):zf (vN n)=zf dN*(zf n*zf n)+1:=by
 unfold vN
 rw [zf_mod,zf_add,zf_mod,zf_mul,zf_mod,zf_mul,zf_1]
theorem zf_x {n:Nat} {odd:Bool}:zf (gX n odd)*zf (gX n odd)=zf (rN (uN n) (vN n))*zf (rN (uN n) (vN n)):=by
 unfold gX
 split
 ·rw [zf_mod,zf_sub _ (Nat.le_of_lt (rN_lt _ _))]
  grind
 rfl
theorem g_curve {n:Nat} {odd:Bool} (h:gB n odd=true):zf n*zf n-zf (gX n odd)*zf (gX n odd)=1+zf dN*(zf (gX n odd)*zf (gX n odd)*(zf n*zf n)):=by
 unfold gB at h
 rw [Bool.and_eq_true] at h
 have h1:=congrArg zf (rN_sq (uN_lt n) h.1)
 rw [zf_mod,zf_mul,zf_mod,zf_mul,zf_u,zf_v,← zf_x (odd:=odd)] at h1
 generalize zf (gX n odd)*zf (gX n odd)=xx at *
 generalize zf n*zf n=yy at *
 grind
end Fe
namespace Fe
theorem zf_val (a:Fin P):zf a.val=a:=by
 apply Fin.ext;show a.val % P=a.val;exact Nat.mod_eq_of_lt a.isLt
theorem f_nz {a:Fin P} (h:a≠0):a.val≠0:=fun h0=>h (Fin.ext (by rw [h0];rfl))
theorem f_mul {a b:Fin P} (h:a*b=0):a=0∨b=0:=by
 have h1:(a.val*b.val) % P=0:=congrArg Fin.val h
 rcases prP.dvd_mul (Nat.dvd_of_mod_eq_zero h1) with h2 | h2
 ·left;apply Fin.ext;show a.val=0;exact Nat.eq_zero_of_dvd_of_lt h2 a.isLt
 right;apply Fin.ext;show b.val=0;exact Nat.eq_zero_of_dvd_of_lt h2 b.isLt
theorem f_ne {a b:Fin P} (ha:a≠0) (hb:b≠0):a*b≠0:=fun h=>(f_mul h).elim ha hb
theorem f_can {a b c:Fin P} (hc:c≠0) (h:a*c=b*c):a=b:=by
 have:(a-b)*c=0:=by grind
 rcases f_mul this with h1 | h1
 ·grind
 exact absurd h1 hc
def fi (z:Fin P):Fin P:=zf (z.val ^ (P-2) % P)
theorem P_21:(P-2).succ=P-1:=by unfold P;decide
theorem fi_mul {z:Fin P} (h:z≠0):z*fi z=1:=by
 have h1:z.val ^ (P-1) % P=1:=Nt.fermat prP (not_dvd z.isLt (f_nz h))
 have h2:zf (z.val*(z.val ^ (P-2) % P))=1:=by
  apply Fin.ext
  show z.val*(z.val ^ (P-2) % P) % P=1 % P
  rw [Nat.mul_mod,Nat.mod_mod,← Nat.mul_mod,Nat.mul_comm,← Nat.pow_succ,P_21,h1]
  rfl
 rw [zf_mul,zf_val] at h2
 exact h2
theorem fi_zf (n:Nat):fi (zf n)=zf (n ^ (P-2) % P):=by
 unfold fi
 have:(zf n).val=n % P:=rfl
 rw [this,← Nat.pow_mod]
theorem f_two:(2:Fin P)≠0:=fun h=>by
 have h1:2 % P=0 % P:=congrArg Fin.val h
 revert h1;unfold P;decide
def dF:Fin P:=zf dN
theorem d_nz:dF≠0:=fun h=>by
 have h1:dN % P=0:=congrArg Fin.val h
 revert h1;unfold dN P;decide
theorem d_pow:dN ^ hf % P=P-1:=by
 have h1:=Nt.pm_eq P dN 255 hf (by unfold hf P;decide)
 rw [← h1]
 decide +kernel
theorem d_ns (s:Fin P):s*s≠dF:=fun h=>by
 have hs:s≠0:=fun h0=>d_nz (by rw [← h,h0];grind)
 have h1:s.val*s.val % P=dN:=by
  have:s.val*s.val % P=dN % P:=congrArg Fin.val h
  rw [this,Nat.mod_eq_of_lt dN_lt]
 have h2:s.val ^ (P-1) % P=1:=Nt.fermat prP (not_dvd s.isLt (f_nz hs))
 have h3:=d_pow
 rw [← h1,← Nat.pow_mod,Nat.mul_pow,← Nat.pow_add,hf_two,h2] at h3
 revert h3;unfold P;decide
theorem f_i:∃ i:Fin P,i*i = -1:=⟨zf (KK 2),by rw [← zf_mul,← zf_mod,KK_sq,zf_m1]⟩
def Cv (x y:Fin P):Prop:=y*y-x*x=1+dF*(x*x*(y*y))
def cr (x1 y1 x2 y2:Fin P):Fin P:=dF*x1*x2*y1*y2
theorem cr_ne {x1 y1 x2 y2:Fin P} (h1:Cv x1 y1) (h2:Cv x2 y2):cr x1 y1 x2 y2*cr x1 y1 x2 y2≠1:=fun he=>by
 obtain ⟨i,hi⟩:=f_i
 unfold Cv at h1 h2
 have h0:cr x1 y1 x2 y2≠0:=fun h=>by
  rw [h] at he
  exact absurd (congrArg Fin.val he) (by show 0*0 % P≠1 % P;unfold P;decide)
 obtain ⟨e,hE⟩:∃ e,cr x1 y1 x2 y2=e:=⟨_,rfl⟩
 rw [hE] at he h0
 unfold cr at hE
 have n1:x1≠0:=fun h=>h0 (by rw [← hE,h];grind)
 have n2:y1≠0:=fun h=>h0 (by rw [← hE,h];grind)
 have n3:y2≠0:=fun h=>h0 (by rw [← hE,h];grind)
 have k1:(i*x1+e*y1)*(i*x1+e*y1)=dF*((x1*y1*(i*x2+y2))*(x1*y1*(i*x2+y2))):=by grind
 have k2:(i*x1-e*y1)*(i*x1-e*y1)=dF*((x1*y1*(i*x2-y2))*(x1*y1*(i*x2-y2))):=by grind
 have sq:∀ a k:Fin P,a*a=dF*(k*k)→k=0:=fun a k h=>by
  by_cases hk:k=0
  ·exact hk
  have hf:=fi_mul hk
  exact absurd (show (a*fi k)*(a*fi k)=dF by grind) (d_ns _)
 have z1:=(f_mul (sq _ _ k1)).resolve_left (f_ne n1 n2)
 have z2:=(f_mul (sq _ _ k2)).resolve_left (f_ne n1 n2)
 have z3:2*y2=0:=by grind
 exact (f_mul z3).elim f_two n3
theorem cr_p {x1 y1 x2 y2:Fin P} (h1:Cv x1 y1) (h2:Cv x2 y2):1+cr x1 y1 x2 y2≠0:=fun h=>cr_ne h1 h2 (by grind)
theorem cr_m {x1 y1 x2 y2:Fin P} (h1:Cv x1 y1) (h2:Cv x2 y2):1-cr x1 y1 x2 y2≠0:=fun h=>cr_ne h1 h2 (by grind)
def ax (x1 y1 x2 y2:Fin P):Fin P:=(x1*y2+y1*x2)*fi (1+cr x1 y1 x2 y2)
def ay (x1 y1 x2 y2:Fin P):Fin P:=(y1*y2+x1*x2)*fi (1-cr x1 y1 x2 y2)
theorem ax_eq {x1 y1 x2 y2:Fin P} (h1:Cv x1 y1) (h2:Cv x2 y2):ax x1 y1 x2 y2*(1+cr x1 y1 x2 y2)=x1*y2+y1*x2:=by
 have:=fi_mul (cr_p h1 h2);unfold ax;generalize fi _=u at *;generalize 1+cr x1 y1 x2 y2=k at *;grind
theorem ay_eq {x1 y1 x2 y2:Fin P} (h1:Cv x1 y1) (h2:Cv x2 y2):ay x1 y1 x2 y2*(1-cr x1 y1 x2 y2)=y1*y2+x1*x2:=by
 have:=fi_mul (cr_m h1 h2);unfold ay;generalize fi _=u at *;generalize 1-cr x1 y1 x2 y2=k at *;grind
theorem cv_poly {x1 y1 x2 y2:Fin P} (h1:Cv x1 y1) (h2:Cv x2 y2) :
  ((y1*y2+x1*x2)*(1+cr x1 y1 x2 y2))*((y1*y2+x1*x2)*(1+cr x1 y1 x2 y2))-((x1*y2+y1*x2)*(1-cr x1 y1 x2 y2))*((x1*y2+y1*x2)*(1-cr x1 y1 x2 y2))=(1-cr x1 y1 x2 y2*cr x1 y1 x2 y2)*(1-cr x1 y1 x2 y2*cr x1 y1 x2 y2)+dF*(((x1*y2+y1*x2)*(x1*y2+y1*x2))*((y1*y2+x1*x2)*(y1*y2+x1*x2))):=by
 unfold Cv cr at *
 generalize dF=d at *
 grind
theorem cv_add {x1 y1 x2 y2:Fin P} (h1:Cv x1 y1) (h2:Cv x2 y2):Cv (ax x1 y1 x2 y2) (ay x1 y1 x2 y2):=by
 have hp:=cv_poly h1 h2
 have e1:=ax_eq h1 h2
 have e2:=ay_eq h1 h2
 have np:=cr_p h1 h2
 have nm:=cr_m h1 h2
 rw [← e1,← e2] at hp
 generalize ax x1 y1 x2 y2=x at *
 generalize ay x1 y1 x2 y2=y at *
 generalize cr x1 y1 x2 y2=e at *
 unfold Cv
 have hq:(y*y-x*x)*(((1+e)*(1-e))*((1+e)*(1-e)))=(1+dF*(x*x*(y*y)))*(((1+e)*(1-e))*((1+e)*(1-e))):=by
  generalize dF=d at *
  clear e1 e2 np nm h1 h2
  grind
 exact f_can (f_ne (f_ne np nm) (f_ne np nm)) hq
theorem cr_comm (x1 y1 x2 y2:Fin P):cr x1 y1 x2 y2=cr x2 y2 x1 y1:=by unfold cr;grind
theorem ax_comm (x1 y1 x2 y2:Fin P):ax x1 y1 x2 y2=ax x2 y2 x1 y1:=by
 unfold ax;rw [cr_comm];generalize fi _=u;grind
theorem ay_comm (x1 y1 x2 y2:Fin P):ay x1 y1 x2 y2=ay x2 y2 x1 y1:=by
 unfold ay;rw [cr_comm];generalize fi _=u;grind
theorem asx {x1 y1 x2 y2 x3 y3:Fin P} (e1:Cv x1 y1) (e2:Cv x2 y2) (e3:Cv x3 y3) :
  ((x1*y2+y1*x2)*y3*(1-dF*x1*x2*y1*y2)+(y1*y2+x1*x2)*x3*(1+dF*x1*x2*y1*y2))*((1-(dF*x2*x3*y2*y3)*(dF*x2*x3*y2*y3))+dF*x1*y1*(x2*y3+y2*x3)*(y2*y3+x2*x3))=((x2*y3+y2*x3)*y1*(1-dF*x2*x3*y2*y3)+(y2*y3+x2*x3)*x1*(1+dF*x2*x3*y2*y3))*((1-(dF*x1*x2*y1*y2)*(dF*x1*x2*y1*y2))+dF*x3*y3*(x1*y2+y1*x2)*(y1*y2+x1*x2)):=by
 unfold Cv at *
 generalize dF=d at *
 grind
theorem asy {x1 y1 x2 y2 x3 y3:Fin P} (e1:Cv x1 y1) (e2:Cv x2 y2) (e3:Cv x3 y3) :
  ((y1*y2+x1*x2)*y3*(1+dF*x1*x2*y1*y2)+(x1*y2+y1*x2)*x3*(1-dF*x1*x2*y1*y2))*((1-(dF*x2*x3*y2*y3)*(dF*x2*x3*y2*y3))-dF*x1*y1*(x2*y3+y2*x3)*(y2*y3+x2*x3))=((y2*y3+x2*x3)*y1*(1+dF*x2*x3*y2*y3)+(x2*y3+y2*x3)*x1*(1-dF*x2*x3*y2*y3))*((1-(dF*x1*x2*y1*y2)*(dF*x1*x2*y1*y2))-dF*x3*y3*(x1*y2+y1*x2)*(y1*y2+x1*x2)):=by
 unfold Cv at *
 generalize dF=d at *
 grind
theorem ax3 {x1 y1 x2 y2 x3 y3:Fin P} (h1:Cv x1 y1) (h2:Cv x2 y2) (h3:Cv x3 y3) :
  ax (ax x1 y1 x2 y2) (ay x1 y1 x2 y2) x3 y3*((1-(dF*x1*x2*y1*y2)*(dF*x1*x2*y1*y2))+dF*x3*y3*(x1*y2+y1*x2)*(y1*y2+x1*x2))=(x1*y2+y1*x2)*y3*(1-dF*x1*x2*y1*y2)+(y1*y2+x1*x2)*x3*(1+dF*x1*x2*y1*y2) ∧
  (1-(dF*x1*x2*y1*y2)*(dF*x1*x2*y1*y2))+dF*x3*y3*(x1*y2+y1*x2)*(y1*y2+x1*x2)≠0:=by
 have h12:=cv_add h1 h2
 have e3:=ax_eq h12 h3
 have n3:=cr_p h12 h3
 have e1:=ax_eq h1 h2
 have e2:=ay_eq h1 h2
 have np:=cr_p h1 h2
 have nm:=cr_m h1 h2
 generalize ax (ax x1 y1 x2 y2) (ay x1 y1 x2 y2) x3 y3=s at *
 generalize ax x1 y1 x2 y2=x at *
 generalize ay x1 y1 x2 y2=y at *
 rw [← e1,← e2]
 have hd:(1-(dF*x1*x2*y1*y2)*(dF*x1*x2*y1*y2))+dF*x3*y3*(x*(1+cr x1 y1 x2 y2))*(y*(1-cr x1 y1 x2 y2))=(1+cr x y x3 y3)*((1+cr x1 y1 x2 y2)*(1-cr x1 y1 x2 y2)):=by
  have hc:dF*x1*x2*y1*y2=cr x1 y1 x2 y2:=rfl
  have hc2:cr x y x3 y3=dF*x*x3*y*y3:=rfl
  rw [hc,hc2]
  generalize cr x1 y1 x2 y2=e
  generalize dF=d
  clear h1 h2 h3 h12 e1 e2 e3 n3 np nm hc hc2
  grind
 rw [hd]
 refine ⟨?_,f_ne n3 (f_ne np nm)⟩
 have hc:dF*x1*x2*y1*y2=cr x1 y1 x2 y2:=rfl
 rw [hc]
 generalize cr x1 y1 x2 y2=e at *
 generalize cr x y x3 y3=k at *
 clear h1 h2 h3 h12 e1 e2 n3 np nm hd hc
 grind
theorem ay3 {x1 y1 x2 y2 x3 y3:Fin P} (h1:Cv x1 y1) (h2:Cv x2 y2) (h3:Cv x3 y3) :
  ay (ax x1 y1 x2 y2) (ay x1 y1 x2 y2) x3 y3*((1-(dF*x1*x2*y1*y2)*(dF*x1*x2*y1*y2))-dF*x3*y3*(x1*y2+y1*x2)*(y1*y2+x1*x2))=(y1*y2+x1*x2)*y3*(1+dF*x1*x2*y1*y2)+(x1*y2+y1*x2)*x3*(1-dF*x1*x2*y1*y2) ∧
  (1-(dF*x1*x2*y1*y2)*(dF*x1*x2*y1*y2))-dF*x3*y3*(x1*y2+y1*x2)*(y1*y2+x1*x2)≠0:=by
 have h12:=cv_add h1 h2
 have e3:=ay_eq h12 h3
 have n3:=cr_m h12 h3
 have e1:=ax_eq h1 h2
 have e2:=ay_eq h1 h2
 have np:=cr_p h1 h2
 have nm:=cr_m h1 h2
 generalize ay (ax x1 y1 x2 y2) (ay x1 y1 x2 y2) x3 y3=s at *
 generalize ax x1 y1 x2 y2=x at *
 generalize ay x1 y1 x2 y2=y at *
 rw [← e1,← e2]
 have hd:(1-(dF*x1*x2*y1*y2)*(dF*x1*x2*y1*y2))-dF*x3*y3*(x*(1+cr x1 y1 x2 y2))*(y*(1-cr x1 y1 x2 y2))=(1-cr x y x3 y3)*((1+cr x1 y1 x2 y2)*(1-cr x1 y1 x2 y2)):=by
  have hc:dF*x1*x2*y1*y2=cr x1 y1 x2 y2:=rfl
  have hc2:cr x y x3 y3=dF*x*x3*y*y3:=rfl
  rw [hc,hc2]
  generalize cr x1 y1 x2 y2=e
  generalize dF=d
  clear h1 h2 h3 h12 e1 e2 e3 n3 np nm hc hc2
  grind
 rw [hd]
 refine ⟨?_,f_ne n3 (f_ne np nm)⟩
 have hc:dF*x1*x2*y1*y2=cr x1 y1 x2 y2:=rfl
 rw [hc]
 generalize cr x1 y1 x2 y2=e at *
 generalize cr x y x3 y3=k at *
 clear h1 h2 h3 h12 e1 e2 n3 np nm hd hc
 grind
theorem ax_assoc {x1 y1 x2 y2 x3 y3:Fin P} (h1:Cv x1 y1) (h2:Cv x2 y2) (h3:Cv x3 y3) :
  ax (ax x1 y1 x2 y2) (ay x1 y1 x2 y2) x3 y3=ax x1 y1 (ax x2 y2 x3 y3) (ay x2 y2 x3 y3):=by
 obtain ⟨a1,n1⟩:=ax3 h1 h2 h3
 obtain ⟨a2,n2⟩:=ax3 h2 h3 h1
 have hs:=asx h1 h2 h3
 rw [ax_comm x1 y1 (ax x2 y2 x3 y3)]
 generalize ax (ax x1 y1 x2 y2) (ay x1 y1 x2 y2) x3 y3=s at *
 generalize ax (ax x2 y2 x3 y3) (ay x2 y2 x3 y3) x1 y1=t at *
 rw [← a1,← a2] at hs
 generalize (1-(dF*x1*x2*y1*y2)*(dF*x1*x2*y1*y2))+dF*x3*y3*(x1*y2+y1*x2)*(y1*y2+x1*x2)=A at *
 generalize (1-(dF*x2*x3*y2*y3)*(dF*x2*x3*y2*y3))+dF*x1*y1*(x2*y3+y2*x3)*(y2*y3+x2*x3)=B at *
 refine f_can (f_ne n1 n2) ?_
 clear a1 a2 n1 n2 h1 h2 h3
 grind
theorem ay_assoc {x1 y1 x2 y2 x3 y3:Fin P} (h1:Cv x1 y1) (h2:Cv x2 y2) (h3:Cv x3 y3) :
  ay (ax x1 y1 x2 y2) (ay x1 y1 x2 y2) x3 y3=ay x1 y1 (ax x2 y2 x3 y3) (ay x2 y2 x3 y3):=by
 obtain ⟨a1,n1⟩:=ay3 h1 h2 h3
 obtain ⟨a2,n2⟩:=ay3 h2 h3 h1
 have hs:=asy h1 h2 h3
 rw [ay_comm x1 y1 (ax x2 y2 x3 y3)]
 generalize ay (ax x1 y1 x2 y2) (ay x1 y1 x2 y2) x3 y3=s at *
 generalize ay (ax x2 y2 x3 y3) (ay x2 y2 x3 y3) x1 y1=t at *
 rw [← a1,← a2] at hs
 generalize (1-(dF*x1*x2*y1*y2)*(dF*x1*x2*y1*y2))-dF*x3*y3*(x1*y2+y1*x2)*(y1*y2+x1*x2)=A at *
 generalize (1-(dF*x2*x3*y2*y3)*(dF*x2*x3*y2*y3))-dF*x1*y1*(x2*y3+y2*x3)*(y2*y3+x2*x3)=B at *
 refine f_can (f_ne n1 n2) ?_
 clear a1 a2 n1 n2 h1 h2 h3
 grind
theorem fi_one:fi 1=1:=by
 have h:=fi_mul (z:=(1:Fin P)) (fun h=>absurd (congrArg Fin.val h) (by show 1 % P≠0 % P;unfold P;decide))
 grind
theorem cv_zero:Cv 0 1:=by unfold Cv;grind
theorem cr_z (x y:Fin P):cr x y 0 1=0:=by unfold cr;grind
theorem f_a0 (x:Fin P):x+0=x:=by grind
theorem f_s0 (x:Fin P):x-0=x:=by grind
theorem f_m1 (x:Fin P):x*1=x:=by grind
theorem f_m0 (x:Fin P):x*0=0:=by grind
theorem ax_zero (x y:Fin P):ax x y 0 1=x:=by
 unfold ax;rw [cr_z,f_a0,fi_one,f_m1,f_m1,f_m0,f_a0]
theorem ay_zero (x y:Fin P):ay x y 0 1=y:=by
 unfold ay;rw [cr_z,f_s0,fi_one,f_m1,f_m1,f_m0,f_a0]
theorem cv_neg {x y:Fin P} (h:Cv x y):Cv (-x) y:=by unfold Cv at *;generalize dF=d at *;grind
theorem ax_neg (x y:Fin P):ax x y (-x) y=0:=by
 unfold ax;generalize fi _=u;grind
theorem ay_neg {x y:Fin P} (h:Cv x y):ay x y (-x) y=1:=by
 have e:=ay_eq h (cv_neg h)
 have n:=cr_m h (cv_neg h)
 refine f_can n ?_
 rw [e]
 unfold Cv cr at *
 generalize dF=d at *
 clear n e
 grind
end Fe
