import Derived.Test.YtnopjabcdloepaaGreatDoorZb
import Derived.Test.YtnopjabcdloepaaGreatDoorZc
import Derived.Deep.Cut
namespace Fe
def clr (b:Nat→Int) (j:Nat):Int:=if j=31 then b 31 % 128 else b j
theorem clr_r {b:Nat→Int} (h:∀ j,0≤b j∧b j<256) (j:Nat):0≤clr b j∧clr b j<256:=by
 unfold clr
 split
 ·omega
 exact h j
def nB (b:Nat→Int):Nat:=nv (getE (clr b) 255)
def odB (b:Nat→Int):Bool:=decide (128≤b 31)
def okB (b:Nat→Int):Bool:=Go.Proofs.YtnopjabcdloepaaGreatDoor.getOk (clr b)&&gB (nB b) (odB b)
end Fe
namespace Go.Proofs.YtnopjabcdloepaaGreatDoor
open Go.RowKit
theorem fGet (b:Nat→Int) (g c:Nat) (w:World) (hB:∀ j,j<32→w.cell? ⟨g,j,none⟩=some (.int .u8 (b j))) (hr:∀ j,0≤b j∧b j<256) (hg:g<w.heap.size) :
  Calls Tryz.prog 250 #[.slice (some ⟨g,0,none⟩) 32 c] w fun e w'=>(∃ x ok,e=.returned (.tuple #[.agg #[.int .u64 x.a0,.int .u64 x.a1,.int .u64 x.a2,.int .u64 x.a3,.int .u64 x.a4],.bool ok])∧ok=getOk b∧El x (if getOk b then Fe.nv (Fe.getE b 255) else 0))∧Below w.heap.size w w':=by
 refine (get_Ec b g 0 c w (fun j hj=>by rw [Nat.zero_add];exact hB j hj) hr hg _ _ rfl rfl).mono fun e w' h=>⟨⟨_,_,h.1,rfl,?_⟩,h.2⟩
 split
 ·exact ⟨(Fe.getE_d b 255).r,rfl⟩
 exact el_zero
theorem and128 {x:Int} (h0:0≤x) (h1:x<256):bits .and .u8 x 128=if 128≤x then 128 else 0:=by
 have h:∀ y:Fin 256,bits .and .u8 (y.val:Int) 128=if 128≤(y.val:Int) then 128 else 0:=by decide +kernel
 have:=h ⟨x.toNat,by omega⟩
 simpa [Int.toNat_of_nonneg h0] using this
theorem anot128 {x:Int} (h0:0≤x) (h1:x<256):bits .andNot .u8 x 128=x % 128:=by
 have h:∀ y:Fin 256,bits .andNot .u8 (y.val:Int) 128=(y.val:Int) % 128:=by decide +kernel
 have:=h ⟨x.toNat,by omega⟩
 simpa [Int.toNat_of_nonneg h0] using this
def PostG (b:Nat→Int) (w:World) (e:Ending) (w':World):Prop:=((Fe.okB b=true∧∃ x y z t:Fe.E,e=.returned (.tuple #[.agg #[.int .u64 x.a0,.int .u64 x.a1,.int .u64 x.a2,.int .u64 x.a3,.int .u64 x.a4,.int .u64 y.a0,.int .u64 y.a1,.int .u64 y.a2,.int .u64 y.a3,.int .u64 y.a4,.int .u64 z.a0,.int .u64 z.a1,.int .u64 z.a2,.int .u64 z.a3,.int .u64 z.a4,.int .u64 t.a0,.int .u64 t.a1,.int .u64 t.a2,.int .u64 t.a3,.int .u64 t.a4],.bool true])∧El x (Fe.gX (Fe.nB b) (Fe.odB b))∧El y (Fe.nB b)∧El z 1∧El t (Fe.gX (Fe.nB b) (Fe.odB b)*Fe.nB b % Fe.P))∨(Fe.okB b=false∧e=.returned (.tuple #[.agg #[.int .u64 0,.int .u64 0,.int .u64 0,.int .u64 0,.int .u64 0,.int .u64 0,.int .u64 0,.int .u64 0,.int .u64 0,.int .u64 0,.int .u64 0,.int .u64 0,.int .u64 0,.int .u64 0,.int .u64 0,.int .u64 0,.int .u64 0,.int .u64 0,.int .u64 0,.int .u64 0],.bool false])))∧Below w.heap.size w w'
theorem fRootV {x y:Fe.E} {a b:Nat} {n:Nat} {v:Bool} (hx:El x a) (hy:El y b) (hn:Fe.rN a b=n) (hv:Fe.bN a b=v) (w:World):Calls Tryz.prog 252 #[.agg #[.int .u64 x.a0,.int .u64 x.a1,.int .u64 x.a2,.int .u64 x.a3,.int .u64 x.a4],.agg #[.int .u64 y.a0,.int .u64 y.a1,.int .u64 y.a2,.int .u64 y.a3,.int .u64 y.a4]] w (PostRt n v w):=by rw [← hn,← hv];exact fRoot hx hy w
section
variable {ops:Array Oper} {rest:List Oper} {o:Oper} {a:Act} {w:World} {Q:Exit→Act→World→Prop}
theorem bdPt (hgd:o.guard=none) {p q r s:Operand} (ho:o.op=.build 204 #[(0,p),(1,q),(2,r),(3,s)]) {X Y Z T:Fe.E} (hp:a.eval p=.agg #[.int .u64 X.a0,.int .u64 X.a1,.int .u64 X.a2,.int .u64 X.a3,.int .u64 X.a4]) (hq:a.eval q=.agg #[.int .u64 Y.a0,.int .u64 Y.a1,.int .u64 Y.a2,.int .u64 Y.a3,.int .u64 Y.a4]) (hr:a.eval r=.agg #[.int .u64 Z.a0,.int .u64 Z.a1,.int .u64 Z.a2,.int .u64 Z.a3,.int .u64 Z.a4]) (hs:a.eval s=.agg #[.int .u64 T.a0,.int .u64 T.a1,.int .u64 T.a2,.int .u64 T.a3,.int .u64 T.a4])
  (h:wpList Tryz.prog ops Q rest (a.put o.dst (.agg #[.int .u64 X.a0,.int .u64 X.a1,.int .u64 X.a2,.int .u64 X.a3,.int .u64 X.a4,.int .u64 Y.a0,.int .u64 Y.a1,.int .u64 Y.a2,.int .u64 Y.a3,.int .u64 Y.a4,.int .u64 Z.a0,.int .u64 Z.a1,.int .u64 Z.a2,.int .u64 Z.a3,.int .u64 Z.a4,.int .u64 T.a0,.int .u64 T.a1,.int .u64 T.a2,.int .u64 T.a3,.int .u64 T.a4])) w):wpList Tryz.prog ops Q (o::rest) a w:=by
 have e:Tryz.prog.built 204 ((#[(0,p),(1,q),(2,r),(3,s)]:Array (Nat × Operand)).map fun (i,x)=>(i,a.eval x)).toList=some #[.int .u64 X.a0,.int .u64 X.a1,.int .u64 X.a2,.int .u64 X.a3,.int .u64 X.a4,.int .u64 Y.a0,.int .u64 Y.a1,.int .u64 Y.a2,.int .u64 Y.a3,.int .u64 Y.a4,.int .u64 Z.a0,.int .u64 Z.a1,.int .u64 Z.a2,.int .u64 Z.a3,.int .u64 Z.a4,.int .u64 T.a0,.int .u64 T.a1,.int .u64 T.a2,.int .u64 T.a3,.int .u64 T.a4]:=by
  simp only [List.map_toArray,List.map_cons,List.map_nil,hp,hq,hr,hs]
  kernel_rfl
 refine wpList_build hgd 204 _ ho (by rw [e];rfl) ?_
 rw [e]
 exact h
end
theorem gX_f (n:Nat):Fe.gX n false=Fe.rN (Fe.uN n) (Fe.vN n):=by unfold Fe.gX;rw [if_neg (by decide)]
theorem gX_t (n:Nat):Fe.gX n true=(Fe.P-Fe.rN (Fe.uN n) (Fe.vN n)) % Fe.P:=by unfold Fe.gX;rw [if_pos rfl]
theorem nB_eq {b:Nat→Int} {YN:Nat} (h:(if true=true then Fe.nv (Fe.getE (Fe.clr b) 255) else 0)=YN):Fe.nB b=YN:=by
 rw [if_pos rfl] at h
 unfold Fe.nB
 exact h
theorem nokB {b:Nat→Int} {YN:Nat} {od:Bool} (h:(if true=true then Fe.nv (Fe.getE (Fe.clr b) 255) else 0)=YN) (ho:Fe.odB b=od) (hn:Fe.bN (Fe.uN YN) (Fe.vN YN)=false∨(od=true∧∃ XN,Fe.rN (Fe.uN YN) (Fe.vN YN)=XN∧decide (XN=0)=true)):Fe.okB b=false:=by
 unfold Fe.okB Fe.gB
 rw [nB_eq h,ho]
 rcases hn with hn | ⟨rfl,XN,h1,h2⟩
 ·rw [hn];simp
 rw [h1,h2];simp
theorem yokB {b:Nat→Int} {YN:Nat} {od:Bool} (h:(if true=true then Fe.nv (Fe.getE (Fe.clr b) 255) else 0)=YN) (ho:Fe.odB b=od) (hk:true=getOk (Fe.clr b)) (hn:Fe.bN (Fe.uN YN) (Fe.vN YN)=true) (hz:od=false∨∃ XN,Fe.rN (Fe.uN YN) (Fe.vN YN)=XN∧decide (XN=0)=false):Fe.okB b=true:=by
 unfold Fe.okB Fe.gB
 rw [nB_eq h,ho,hn,← hk]
 rcases hz with rfl | ⟨XN,h1,h2⟩
 ·rfl
 rw [h1,h2];simp
def RtP (n:Nat) (v:Bool):Value→World→Prop:=fun y _=>∃ x:Fe.E,y=.tuple #[.agg #[.int .u64 x.a0,.int .u64 x.a1,.int .u64 x.a2,.int .u64 x.a3,.int .u64 x.a4],.bool v]∧El x n
theorem sta_rt (n:Nat) (v:Bool):Sta (RtP n v):=fun _ _ _ h _=>h
theorem retPt2 {fn:Func} {p q:Tmp} {g:Nat} {tmps:Array Value} {D:List Deferred} {w:World} {R:Ending→World→Prop} {cs:Array Value} {v:Value} (h:fn.results=#[.cell p 204,.tmp q]) (hp:tmps.getD p undef=.pointer (some ⟨g,0,none⟩)) (hq:tmps.getD q undef=v) (hg:Blk w g 204 cs) (hs:cs.size=20) (hD:D=[]) (hR:R (.returned (.tuple #[.agg cs,v])) w):bodyPost Tryz.prog fn R .ret ⟨tmps,D⟩ w:=by
 obtain ⟨d,hd,hs2⟩:=pt_under
 have hp':tmps[p]?.getD undef=.pointer (some ⟨g,0,none⟩):=by simpa using hp
 have hq':tmps[q]?.getD undef=v:=by simpa using hq
 refine bodyPost_ret (v:=.tuple #[.agg cs,v]) ?_ hD hR
 simp [results,h,hp',hq',asAddr,run_loadVar_row w g 204 204 cs (0,0) d hg hd (by revert hs2;cases d <;> exact fun h=>h) (by rw [hs];exact pt_size)]
def eg8L (u2:Fe.E) (YN:Nat) (XN:Nat) (BB:Bool) (B0:Nat):List (Value→World→Prop):=[
 Eq1 (.agg #[.int .u64 u2.a0,.int .u64 u2.a1,.int .u64 u2.a2,.int .u64 u2.a3,.int .u64 u2.a4]),
 Eq1 (.agg #[.int .u64 1,.int .u64 0,.int .u64 0,.int .u64 0,.int .u64 0]),
 ElP (((YN*YN % Fe.P)+(Fe.P-1)) % Fe.P),
 Eq1 (.agg #[.int .u64 929955233495203,.int .u64 466365720129213,.int .u64 1662059464998953,.int .u64 2033849074728123,.int .u64 1442794654840575]),
 Eq1 (.agg #[.int .u64 u2.a0,.int .u64 u2.a1,.int .u64 u2.a2,.int .u64 u2.a3,.int .u64 u2.a4]),
 ElP (Fe.dN*(YN*YN % Fe.P) % Fe.P),
 Eq1 (.agg #[.int .u64 1,.int .u64 0,.int .u64 0,.int .u64 0,.int .u64 0]),
 ElP (((Fe.dN*(YN*YN % Fe.P) % Fe.P)+1) % Fe.P),
 RtP XN BB,
 RtP XN BB,
 ElP XN,
 Eq1 (.bool BB),
 NewB B0 202 #[.int .u64 0,.int .u64 0,.int .u64 0,.int .u64 0,.int .u64 0]]
theorem eg8S (u2:Fe.E) (YN:Nat) (XN:Nat) (BB:Bool) (B0:Nat):∀ j x' q q',(eg8L u2 YN XN BB B0).getD j (fun _ _=>True) x' q→Below q.heap.size q q'→(eg8L u2 YN XN BB B0).getD j (fun _ _=>True) x' q':=by
 refine sta_all _ ?_
 simp only [eg8L,List.mem_cons,forall_eq_or_imp,List.not_mem_nil,false_implies,implies_true,and_true]
 exact ⟨sta_eq _,sta_eq _,sta_el _,sta_eq _,sta_eq _,sta_el _,sta_eq _,sta_el _,sta_rt _ _,sta_rt _ _,sta_el _,sta_eq _,sta_new _ _ _⟩
def eg15fL (yv:Fe.E) (YN:Nat) (XN:Nat) (xr:Fe.E):List (Value→World→Prop):=[
 Eq1 (.agg #[.int .u64 xr.a0,.int .u64 xr.a1,.int .u64 xr.a2,.int .u64 xr.a3,.int .u64 xr.a4]),
 Eq1 (.agg #[.int .u64 yv.a0,.int .u64 yv.a1,.int .u64 yv.a2,.int .u64 yv.a3,.int .u64 yv.a4]),
 ElP 1,
 Eq1 (.agg #[.int .u64 xr.a0,.int .u64 xr.a1,.int .u64 xr.a2,.int .u64 xr.a3,.int .u64 xr.a4]),
 Eq1 (.agg #[.int .u64 yv.a0,.int .u64 yv.a1,.int .u64 yv.a2,.int .u64 yv.a3,.int .u64 yv.a4]),
 ElP (XN*YN % Fe.P),
 PtP XN YN 1 (XN*YN % Fe.P)]
theorem eg15fS (yv:Fe.E) (YN:Nat) (XN:Nat) (xr:Fe.E):∀ j x' q q',(eg15fL yv YN XN xr).getD j (fun _ _=>True) x' q→Below q.heap.size q q'→(eg15fL yv YN XN xr).getD j (fun _ _=>True) x' q':=by
 refine sta_all _ ?_
 simp only [eg15fL,List.mem_cons,forall_eq_or_imp,List.not_mem_nil,false_implies,implies_true,and_true]
 exact ⟨sta_eq _,sta_eq _,sta_el _,sta_eq _,sta_eq _,sta_el _,sta_pt _ _ _ _⟩
def eg15tL (yv:Fe.E) (YN:Nat) (XN:Nat) (xn:Fe.E):List (Value→World→Prop):=[
 Eq1 (.agg #[.int .u64 xn.a0,.int .u64 xn.a1,.int .u64 xn.a2,.int .u64 xn.a3,.int .u64 xn.a4]),
 Eq1 (.agg #[.int .u64 yv.a0,.int .u64 yv.a1,.int .u64 yv.a2,.int .u64 yv.a3,.int .u64 yv.a4]),
 ElP 1,
 Eq1 (.agg #[.int .u64 xn.a0,.int .u64 xn.a1,.int .u64 xn.a2,.int .u64 xn.a3,.int .u64 xn.a4]),
 Eq1 (.agg #[.int .u64 yv.a0,.int .u64 yv.a1,.int .u64 yv.a2,.int .u64 yv.a3,.int .u64 yv.a4]),
 ElP (((Fe.P-XN) % Fe.P)*YN % Fe.P),
 PtP ((Fe.P-XN) % Fe.P) YN 1 (((Fe.P-XN) % Fe.P)*YN % Fe.P)]
theorem eg15tS (yv:Fe.E) (YN:Nat) (XN:Nat) (xn:Fe.E):∀ j x' q q',(eg15tL yv YN XN xn).getD j (fun _ _=>True) x' q→Below q.heap.size q q'→(eg15tL yv YN XN xn).getD j (fun _ _=>True) x' q':=by
 refine sta_all _ ?_
 simp only [eg15tL,List.mem_cons,forall_eq_or_imp,List.not_mem_nil,false_implies,implies_true,and_true]
 exact ⟨sta_eq _,sta_eq _,sta_el _,sta_eq _,sta_eq _,sta_el _,sta_pt _ _ _ _⟩
set_option maxRecDepth 20000 in
set_option maxHeartbeats 8000000 in
theorem getp_c (g o c:Nat) (b:Nat→Int) (hr:∀ j,0≤b j∧b j<256) (w:World) (hg:g<w.heap.size) (hc:∀ j,j<32→w.cell? ⟨g,o+j,none⟩=some (.int .u8 (b j))) (hCv:CvP w) :
  Calls Tryz.prog 163 #[.slice (some ⟨g,o,none⟩) 32 c] w (PostG b w):=by
 obtain ⟨od,hod⟩:∃ od,Fe.odB b=od:=⟨_,rfl⟩
 replace hod:=Lib.hid hod
 have hcl:=fun w' (hb:Below w.heap.size w w')=>cloneB_c g o 32 c b (by decide) w' (Nat.lt_of_lt_of_le hg hb.size) (fun j hj=>(hb.cell (p:=⟨g,o+j,none⟩) hg).trans (hc j hj))
 replace hcl:=Lib.hid hcl
 have hC0:=Lib.hid hCv
 replace hr:=Lib.hid hr
 clear hc hg
 go_enter Tryz.func163,Tryz.ntmps163
 go_wp2_with fail
 refine calls_at (fun W0 hW=>?_)
 have k0:Blk W0 w.heap.size 204 #[.int .u64 0,.int .u64 0,.int .u64 0,.int .u64 0,.int .u64 0,.int .u64 0,.int .u64 0,.int .u64 0,.int .u64 0,.int .u64 0,.int .u64 0,.int .u64 0,.int .u64 0,.int .u64 0,.int .u64 0,.int .u64 0,.int .u64 0,.int .u64 0,.int .u64 0,.int .u64 0]:=by rw [hW];exact Blk.new _ _ _
 have hb0:Below w.heap.size w W0:=by rw [hW];go_grown
 clear hW
 obtain ⟨G0,hG0⟩:∃ G0,G0=w.heap.size:=⟨_,rfl⟩
 rw [← hG0] at k0 ⊢
 have lo0:w.heap.size≤G0:=by omega
 clear hG0
 refine (hcl.out _ hb0).mono ?_
 rintro e w1 ⟨g1,c1,rfl,hg1,hR,hb⟩
 have lo1:w.heap.size≤g1:=Nat.le_trans hb0.size hg1
 have ne1:g1≠G0:=by have:=k0.lt;omega
 have LC:=Lib.hid hCv.lt
 replace k0:=k0.below hb
 replace hb0:=hb0.trans (hb.mono hb0.size)
 clear hb hg1 hcl
 have c31:=hR.cell 31 (by decide)
 have hRf:=fun i=>hR.frozen i
 have hRl:=hR.lt
 obtain ⟨B31,hB31⟩:∃ B31,B31=b 31:=⟨_,rfl⟩
 rw [← hB31] at c31
 have ha:=and128 (hr.out 31).1 (hr.out 31).2
 have hn:=anot128 (hr.out 31).1 (hr.out 31).2
 have ho2:decide (128≤B31)=od:=by rw [hB31];exact hod.out
 rw [← hB31] at ha hn
 replace hB31:=Lib.hid hB31
 obtain ⟨M,hM⟩:∃ M,bits .and .u8 B31 128=M:=⟨_,rfl⟩
 have hMo:(M==0) = !od:=by rw [← hM,ha,← ho2];by_cases h:128≤B31 <;> simp [h]
 clear ha ho2
 have hMo2:(M != 0)=od:=by rw [bne,hMo,Bool.not_not]
 clear hMo
 go_wp2_with fail
 refine calls_at (fun W1 hW=>?_)
 have hR1:RowB W1 g1 32 c1 (Fe.clr b):=by rw [hW];exact (hR.set_ 31 (by decide) (B31 % 128)).congr (fun i hi=>by unfold Fe.clr;rw [hB31.out])
 replace hb0:Below w.heap.size w W1:=by rw [hW];exact hb0.setCell (by show w.heap.size≤g1;exact lo1) _
 replace k0:Blk W1 G0 204 #[.int .u64 0,.int .u64 0,.int .u64 0,.int .u64 0,.int .u64 0,.int .u64 0,.int .u64 0,.int .u64 0,.int .u64 0,.int .u64 0,.int .u64 0,.int .u64 0,.int .u64 0,.int .u64 0,.int .u64 0,.int .u64 0,.int .u64 0,.int .u64 0,.int .u64 0,.int .u64 0]:=by rw [hW];exact k0.far (p:=⟨g1,31,none⟩) ne1.symm _
 clear hW hR hRf hRl c31 hn hM hCv
 refine (fGet (Fe.clr b) g1 c1 W1 (fun j hj=>hR1.cell j hj) (Fe.clr_r hr.out) hR1.lt).mono ?_
 rintro e w2 ⟨⟨yv,ok,rfl,hok,hyv⟩,hb⟩
 rw [← hok] at hyv
 obtain ⟨YN,hYN⟩:∃ YN,(if ok=true then Fe.nv (Fe.getE (Fe.clr b) 255) else 0)=YN:=⟨_,rfl⟩
 rw [hYN] at hyv
 replace hYN:=Lib.hid hYN
 replace hok:=Lib.hid hok
 obtain ⟨XN,hXN⟩:∃ XN,Fe.rN (Fe.uN YN) (Fe.vN YN)=XN:=⟨_,rfl⟩
 replace hXN:=Lib.hid hXN
 obtain ⟨BB,hBB⟩:∃ BB,Fe.bN (Fe.uN YN) (Fe.vN YN)=BB:=⟨_,rfl⟩
 replace hBB:=Lib.hid hBB
 obtain ⟨ZB,hZB⟩:∃ ZB,decide (XN=0)=ZB:=⟨_,rfl⟩
 replace hZB:=Lib.hid hZB
 replace k0:=k0.below hb
 replace hb0:=hb0.trans (hb.mono hb0.size)
 clear hb hR1 hr
 have hlt:=k0.lt
 go_wp2_with fail
 refine calls_at (fun W2 hW=>?_)
 have k1:Blk W2 w2.heap.size 202 #[.int .u64 yv.a0,.int .u64 yv.a1,.int .u64 yv.a2,.int .u64 yv.a3,.int .u64 yv.a4]:=by rw [hW];exact Blk.new _ _ _
 have hb:Below w2.heap.size w2 W2:=by rw [hW];exact (Below.refl _ _).alloc (Nat.le_refl _) _
 clear hW
 obtain ⟨G1,hG1⟩:∃ G1,G1=w2.heap.size:=⟨_,rfl⟩
 rw [← hG1] at k1 ⊢
 have lo1':w.heap.size≤G1:=by have:=hb0.size;omega
 have ne01:G0≠G1:=by omega
 replace k0:=k0.below hb
 replace hb0:=hb0.trans (hb.mono hb0.size)
 clear hb hlt hG1
 have hlt1:=k1.lt
 refine (fSquare hyv _).mono ?_
 rintro e w3 ⟨u2,rfl,hu2,hb⟩
 replace k0:=k0.below hb
 replace k1:=k1.below hb
 replace hb0:=hb0.trans (hb.mono hb0.size)
 clear hb
 have hlt0:=k0.lt
 have hlt1':=k1.lt
 clear hlt1
 go_wp2_with fail
 refine at_world (fun wC hW=>?_)
 have k2:Blk wC w3.heap.size 202 #[.int .u64 u2.a0,.int .u64 u2.a1,.int .u64 u2.a2,.int .u64 u2.a3,.int .u64 u2.a4]:=by rw [hW];exact Blk.new _ _ _
 have hb:Below w3.heap.size w3 wC:=by rw [hW];exact (Below.refl _ _).alloc (Nat.le_refl _) _
 clear hW
 obtain ⟨G2,hG2⟩:∃ G2,G2=w3.heap.size:=⟨_,rfl⟩
 rw [← hG2] at k2 ⊢
 have ne02:G0≠G2:=by omega
 have ne12:G1≠G2:=by omega
 replace k0:=k0.below hb
 replace k1:=k1.below hb
 replace hb0:=hb0.trans (hb.mono hb0.size)
 have lo2:w.heap.size≤G2:=by have:=hb0.size;omega
 clear hb hG2 hlt0 hlt1'
 have LWC:=Lib.hid hb0.size
 have hC:=hC0.out.below hb0 LC.out
 go_cut [9,10] from 11 (fun p q wx=>∃ g9 xr,p=.pointer (some ⟨g9,0,none⟩)∧q=.bool BB∧wC.heap.size≤g9∧Blk wx g9 202 #[.int .u64 xr.a0,.int .u64 xr.a1,.int .u64 xr.a2,.int .u64 xr.a3,.int .u64 xr.a4]∧El xr XN∧Below wC.heap.size wC wx)
 case first =>
  refine wp_region_grow3 13 11 (fun k=>Nat.beq k 9||(Nat.ble 34 k&&Nat.ble k 45)) _ [] (fun j x' q=>(eg8L u2 YN XN BB wC.heap.size).getD j (fun _ _=>True) x' q) (fun j=>j==12) (fun f=>#[.slice (some ⟨g,o,none⟩) 32 c,undef,.pointer (some ⟨G0,0,none⟩),.bool false,.slice (some ⟨g1,0,none⟩) 32 c1,.bool od,.pointer (some ⟨G1,0,none⟩),.bool ok,.pointer (some ⟨G2,0,none⟩),f 9,undef,.slice (some ⟨g,o,none⟩) 32 c,.int .i64 32,.bool false,undef,.slice (some ⟨g,o,none⟩) 32 c,.slice (some ⟨g1,0,none⟩) 32 c1,.slice (some ⟨g1,0,none⟩) 32 c1,.pointer (some ⟨g1,31,none⟩),.int .u8 B31,.int .u8 M,.bool od,.slice (some ⟨g1,0,none⟩) 32 c1,.pointer (some ⟨g1,31,none⟩),.int .u8 B31,.int .u8 (B31 % 128),.pointer (some ⟨g1,31,none⟩),.tuple #[.agg #[.int .u64 yv.a0,.int .u64 yv.a1,.int .u64 yv.a2,.int .u64 yv.a3,.int .u64 yv.a4],.bool ok],.slice (some ⟨g1,0,none⟩) 32 c1,.tuple #[.agg #[.int .u64 yv.a0,.int .u64 yv.a1,.int .u64 yv.a2,.int .u64 yv.a3,.int .u64 yv.a4],.bool ok],.agg #[.int .u64 yv.a0,.int .u64 yv.a1,.int .u64 yv.a2,.int .u64 yv.a3,.int .u64 yv.a4],.bool ok,.agg #[.int .u64 yv.a0,.int .u64 yv.a1,.int .u64 yv.a2,.int .u64 yv.a3,.int .u64 yv.a4],.agg #[.int .u64 u2.a0,.int .u64 u2.a1,.int .u64 u2.a2,.int .u64 u2.a3,.int .u64 u2.a4],f 34,f 35,f 36,f 37,f 38,f 39,f 40,f 41,f 42,f 43,f 44,f 45,undef,undef,undef,undef,undef,undef,undef,undef,undef,undef,undef,undef,undef,undef,undef,undef,undef,undef,undef,undef,undef,undef]) (fun f=>rfl) (by decide) (by kernel_rfl) (by kernel_rfl) (by kernel_rfl) (by kernel_rfl) (by kernel_rfl) (eg8S _ _ _ _ _) ?_ ?_ ?_
  ·refine steps2_cons ?_ ?_
   ·as_aux_lemma =>
    intro f w1 hb hd Q hK
    clear hd
    have hK:=Lib.hid hK
    have c0:w1.cell? ⟨G2,0,none⟩=some (.int .u64 u2.a0):=(k2.below hb).cell 0
    have c1:w1.cell? ⟨G2,1,none⟩=some (.int .u64 u2.a1):=(k2.below hb).cell 1
    have c2:w1.cell? ⟨G2,2,none⟩=some (.int .u64 u2.a2):=(k2.below hb).cell 2
    have c3:w1.cell? ⟨G2,3,none⟩=some (.int .u64 u2.a3):=(k2.below hb).cell 3
    have c4:w1.cell? ⟨G2,4,none⟩=some (.int .u64 u2.a4):=(k2.below hb).cell 4
    go_wp2
    exact hK.out _ _ rfl (.refl _ _) nof
   refine steps2_cons ?_ ?_
   ·as_aux_lemma =>
    intro f w1 hb hd Q hK
    clear hd
    have hK:=Lib.hid hK
    go_wp2_with fail
    refine (fOne _).mono ?_
    rintro e w2 ⟨rfl,hb2⟩
    go_wp2
    exact hK.out _ _ rfl hb2 nof
   refine steps2_cons ?_ ?_
   ·as_aux_lemma =>
    intro f w1 hb hd Q hK
    have e35:f 35=.agg #[.int .u64 u2.a0,.int .u64 u2.a1,.int .u64 u2.a2,.int .u64 u2.a3,.int .u64 u2.a4]:=hd.1 rfl
    have e36:f 36=.agg #[.int .u64 1,.int .u64 0,.int .u64 0,.int .u64 0,.int .u64 0]:=hd.2.1 rfl
    clear hd
    simp only [e35,e36] at hK
    have hK:=Lib.hid hK
    go_wp2_with fail
    refine (fSub hu2 el_one _).mono ?_
    rintro e w2 ⟨x,rfl,hx,hb2⟩
    go_wp2
    exact hK.out _ _ ⟨x,rfl,hx⟩ hb2 nof
   refine steps2_cons ?_ ?_
   ·as_aux_lemma =>
    intro f w1 hb hd Q hK
    clear hd
    have hK:=Lib.hid hK
    obtain ⟨c0,c1,c2,c3,c4⟩:=(hC.below hb hC.lt).at0
    go_wp2
    exact hK.out _ _ rfl (.refl _ _) nof
   refine steps2_cons ?_ ?_
   ·as_aux_lemma =>
    intro f w1 hb hd Q hK
    clear hd
    have hK:=Lib.hid hK
    have c0:w1.cell? ⟨G2,0,none⟩=some (.int .u64 u2.a0):=(k2.below hb).cell 0
    have c1:w1.cell? ⟨G2,1,none⟩=some (.int .u64 u2.a1):=(k2.below hb).cell 1
    have c2:w1.cell? ⟨G2,2,none⟩=some (.int .u64 u2.a2):=(k2.below hb).cell 2
    have c3:w1.cell? ⟨G2,3,none⟩=some (.int .u64 u2.a3):=(k2.below hb).cell 3
    have c4:w1.cell? ⟨G2,4,none⟩=some (.int .u64 u2.a4):=(k2.below hb).cell 4
    go_wp2
    exact hK.out _ _ rfl (.refl _ _) nof
   refine steps2_cons ?_ ?_
   ·as_aux_lemma =>
    intro f w1 hb hd Q hK
    have e38:f 38=.agg #[.int .u64 929955233495203,.int .u64 466365720129213,.int .u64 1662059464998953,.int .u64 2033849074728123,.int .u64 1442794654840575]:=hd.1 rfl
    have e39:f 39=.agg #[.int .u64 u2.a0,.int .u64 u2.a1,.int .u64 u2.a2,.int .u64 u2.a3,.int .u64 u2.a4]:=hd.2.1 rfl
    clear hd
    simp only [e38,e39] at hK
    have hK:=Lib.hid hK
    go_wp2_with fail
    refine (fMul el_c hu2 _).mono ?_
    rintro e w2 ⟨x,rfl,hx,hb2⟩
    go_wp2
    exact hK.out _ _ ⟨x,rfl,hx⟩ hb2 nof
   refine steps2_cons ?_ ?_
   ·as_aux_lemma =>
    intro f w1 hb hd Q hK
    clear hd
    have hK:=Lib.hid hK
    go_wp2_with fail
    refine (fOne _).mono ?_
    rintro e w2 ⟨rfl,hb2⟩
    go_wp2
    exact hK.out _ _ rfl hb2 nof
   refine steps2_cons ?_ ?_
   ·as_aux_lemma =>
    intro f w1 hb hd Q hK
    obtain ⟨x40,e40,h40⟩:=(hd.1 rfl:ElP (Fe.dN*(YN*YN % Fe.P) % Fe.P) (f 40) w1)
    have e41:f 41=.agg #[.int .u64 1,.int .u64 0,.int .u64 0,.int .u64 0,.int .u64 0]:=hd.2.1 rfl
    clear hd
    simp only [e40,e41] at hK
    have hK:=Lib.hid hK
    go_wp2_with fail
    refine (fAdd h40 el_one _).mono ?_
    rintro e w2 ⟨x,rfl,hx,hb2⟩
    go_wp2
    exact hK.out _ _ ⟨x,rfl,hx⟩ hb2 nof
   refine steps2_cons ?_ ?_
   ·as_aux_lemma =>
    intro f w1 hb hd Q hK
    obtain ⟨x37,e37,h37⟩:=(hd.1 rfl:ElP (((YN*YN % Fe.P)+(Fe.P-1)) % Fe.P) (f 37) w1)
    obtain ⟨x42,e42,h42⟩:=(hd.2.1 rfl:ElP (((Fe.dN*(YN*YN % Fe.P) % Fe.P)+1) % Fe.P) (f 42) w1)
    clear hd
    simp only [e37,e42] at hK
    have hK:=Lib.hid hK
    go_wp2_with fail
    refine (fRootV h37 h42 hXN.out hBB.out _).mono ?_
    rintro e w2 ⟨x,rfl,hx,hb2⟩
    go_wp2
    exact hK.out _ _ ⟨x,rfl,hx⟩ hb2 nof
   refine steps2_cons ?_ ?_
   ·as_aux_lemma =>
    intro f w1 hb hd Q hK
    obtain ⟨x43,e43,h43⟩:=(hd.1 rfl:RtP XN BB (f 43) w1)
    clear hd
    simp only [e43] at hK
    have hK:=Lib.hid hK
    go_wp2
    exact hK.out _ _ ⟨x43,rfl,h43⟩ (.refl _ _) nof
   refine steps2_cons ?_ ?_
   ·as_aux_lemma =>
    intro f w1 hb hd Q hK
    obtain ⟨x34,e34,h34⟩:=(hd.1 rfl:RtP XN BB (f 34) w1)
    clear hd
    simp only [e34] at hK
    have hK:=Lib.hid hK
    go_wp2
    exact hK.out _ _ ⟨x34,rfl,h34⟩ (.refl _ _) nof
   refine steps2_cons ?_ ?_
   ·as_aux_lemma =>
    intro f w1 hb hd Q hK
    obtain ⟨x34,e34,h34⟩:=(hd.1 rfl:RtP XN BB (f 34) w1)
    clear hd
    simp only [e34] at hK
    have hK:=Lib.hid hK
    go_wp2
    exact hK.out _ _ rfl (.refl _ _) nof
   refine steps2_cons ?_ ?_
   ·as_aux_lemma =>
    intro f w1 hb hd Q hK
    clear hd
    have hK:=Lib.hid hK
    have hsz:=hb.size
    go_wp2
    exact hK.out _ _ ⟨_,rfl,hsz,Blk.new _ _ _⟩ ((Below.refl _ _).alloc (Nat.le_refl _) _) (fun _=>⟨_,rfl,Nat.le_refl _⟩)
   trivial
  ·intro ff yw hb hf
   obtain ⟨g9,d9,lo9,bk9⟩:NewB wC.heap.size 202 #[.int .u64 0,.int .u64 0,.int .u64 0,.int .u64 0,.int .u64 0] (ff 9) yw:=hf 12 _ _ (by decide) rfl rfl
   obtain ⟨x44,d44,h44⟩:ElP XN (ff 44) yw:=hf 10 _ _ (by decide) rfl rfl
   have d45:ff 45=.bool BB:=hf 11 _ _ (by decide) rfl rfl
   clear hf
   simp only [d9,d44,d45]
   clear d9 d44 d45
   refine stEl rfl rfl rfl rfl bk9 rfl ?_
   intro w5 k9 hgr hsz
   have hbS:Below wC.heap.size wC w5:=hb.grown hgr hb.size (fun k hk=>by injection hk with hk;omega)
   clear hgr hsz hb bk9
   go_wp2
   go_meet
   case rel=>exact ⟨g9,_,rfl,rfl,lo9,k9,h44,hbS⟩
  intro ff yw hb hf on oe hon hoe
  cases hon
  cases hoe
  obtain ⟨g9,d9,lo9,bk9⟩:NewB wC.heap.size 202 #[.int .u64 0,.int .u64 0,.int .u64 0,.int .u64 0,.int .u64 0] (ff 9) yw:=hf 12 _ _ (by decide) (by decide) rfl rfl
  obtain ⟨x34,d34,h34⟩:RtP XN BB (ff 34) yw:=hf 9 _ _ (by decide) (by decide) rfl rfl
  obtain ⟨x44,d44,h44⟩:ElP XN (ff 44) yw:=hf 10 _ _ (by decide) (by decide) rfl rfl
  clear hf
  simp only [d9,d34,d44]
  clear d9 d34 d44
  refine stEl rfl rfl rfl rfl bk9 rfl ?_
  intro w5 k9 hgr hsz
  have hbS:Below wC.heap.size wC w5:=hb.grown hgr hb.size (fun k hk=>by injection hk with hk;omega)
  clear hgr hsz hb bk9
  go_wp2
  go_meet
  case rel=>exact ⟨g9,_,rfl,rfl,lo9,k9,h44,hbS⟩
 case rest =>
  obtain ⟨g9,xr,hp9,hq10,lo9,k9,hxr,hb⟩:=hcut
  subst hp9 hq10
  have hltG0:=k0.lt
  have hltG1:=k1.lt
  have ne09:G0≠g9:=by omega
  have ne19:G1≠g9:=by omega
  have lo9':w.heap.size≤g9:=by have:=LWC.out;omega
  replace k0:=k0.below hb
  replace k1:=k1.below hb
  replace hb0:=hb0.trans (hb.mono hb0.size)
  clear hb k2 hC lo9 hltG0 hltG1 ne02 ne12
  cases ok
  ·go_wp2_with (refine stPt rfl rfl rfl rfl k0 rfl rfl (by kernel_rfl) ?_;intro w9 k7 hgr hsz)
   exact retPt2 rfl rfl rfl k7 rfl rfl ⟨.inr ⟨by unfold Fe.okB;rw [← hok.out,Bool.false_and],rfl⟩,hb0.grown hgr hb0.size (fun k hk=>by injection hk with hk;omega)⟩
  cases BB
  ·go_wp2_with (refine stPt rfl rfl rfl rfl k0 rfl rfl (by kernel_rfl) ?_;intro w9 k7 hgr hsz)
   exact retPt2 rfl rfl rfl k7 rfl rfl ⟨.inr ⟨nokB hYN.out hod.out (.inl hBB.out),rfl⟩,hb0.grown hgr hb0.size (fun k hk=>by injection hk with hk;omega)⟩
  cases od
  ·go_wp2_with fail
   have hX:Fe.gX YN false=XN:=(gX_f YN).trans hXN.out
   have hbR:=Below.refl wc.heap.size wc
   refine wp_region_grow2 7 (fun k=>(Nat.ble 61 k&&Nat.ble k 67)) _ [] (fun j x' q=>(eg15fL yv YN XN xr).getD j (fun _ _=>True) x' q) (fun _=>false) (fun f=>#[.slice (some ⟨g,o,none⟩) 32 c,undef,.pointer (some ⟨G0,0,none⟩),.bool false,.slice (some ⟨g1,0,none⟩) 32 c1,.bool false,.pointer (some ⟨G1,0,none⟩),.bool true,.pointer (some ⟨G2,0,none⟩),.pointer (some ⟨g9,0,none⟩),.bool true,u11,u12,u13,u14,u15,u16,u17,u18,u19,u20,u21,u22,u23,u24,u25,u26,u27,u28,u29,u30,u31,u32,u33,u34,u35,u36,u37,u38,u39,u40,u41,u42,u43,u44,u45,.bool false,.bool true,.bool false,.bool true,.bool false,.bool false,.bool false,undef,undef,.bool false,u56,.bool false,.bool false,u59,u60,f 61,f 62,f 63,f 64,f 65,f 66,f 67]) (fun f=>rfl) (by kernel_rfl) (by kernel_rfl) (by kernel_rfl) (by kernel_rfl) (by kernel_rfl) (eg15fS _ _ _ _) (fun _ _ _ h=>by cases h) ?_ ?_
   ·refine steps2_cons ?_ ?_
    ·as_aux_lemma =>
     intro f w1 hb hd Q hK
     clear hd
     have hK:=Lib.hid hK
     have c0:w1.cell? ⟨g9,0,none⟩=some (.int .u64 xr.a0):=(k9.below hb).cell 0
     have c1:w1.cell? ⟨g9,1,none⟩=some (.int .u64 xr.a1):=(k9.below hb).cell 1
     have c2:w1.cell? ⟨g9,2,none⟩=some (.int .u64 xr.a2):=(k9.below hb).cell 2
     have c3:w1.cell? ⟨g9,3,none⟩=some (.int .u64 xr.a3):=(k9.below hb).cell 3
     have c4:w1.cell? ⟨g9,4,none⟩=some (.int .u64 xr.a4):=(k9.below hb).cell 4
     go_wp2
     exact hK.out _ _ rfl (.refl _ _) nof
    refine steps2_cons ?_ ?_
    ·as_aux_lemma =>
     intro f w1 hb hd Q hK
     clear hd
     have hK:=Lib.hid hK
     have c0:w1.cell? ⟨G1,0,none⟩=some (.int .u64 yv.a0):=(k1.below hb).cell 0
     have c1:w1.cell? ⟨G1,1,none⟩=some (.int .u64 yv.a1):=(k1.below hb).cell 1
     have c2:w1.cell? ⟨G1,2,none⟩=some (.int .u64 yv.a2):=(k1.below hb).cell 2
     have c3:w1.cell? ⟨G1,3,none⟩=some (.int .u64 yv.a3):=(k1.below hb).cell 3
     have c4:w1.cell? ⟨G1,4,none⟩=some (.int .u64 yv.a4):=(k1.below hb).cell 4
     go_wp2
     exact hK.out _ _ rfl (.refl _ _) nof
    refine steps2_cons ?_ ?_
    ·as_aux_lemma =>
     intro f w1 hb hd Q hK
     clear hd
     have hK:=Lib.hid hK
     go_wp2_with fail
     refine (fOne _).mono ?_
     rintro e w2 ⟨rfl,hb2⟩
     go_wp2
     exact hK.out _ _ ⟨⟨1,0,0,0,0⟩,rfl,el_one⟩ hb2 nof
    refine steps2_cons ?_ ?_
    ·as_aux_lemma =>
     intro f w1 hb hd Q hK
     clear hd
     have hK:=Lib.hid hK
     have c0:w1.cell? ⟨g9,0,none⟩=some (.int .u64 xr.a0):=(k9.below hb).cell 0
     have c1:w1.cell? ⟨g9,1,none⟩=some (.int .u64 xr.a1):=(k9.below hb).cell 1
     have c2:w1.cell? ⟨g9,2,none⟩=some (.int .u64 xr.a2):=(k9.below hb).cell 2
     have c3:w1.cell? ⟨g9,3,none⟩=some (.int .u64 xr.a3):=(k9.below hb).cell 3
     have c4:w1.cell? ⟨g9,4,none⟩=some (.int .u64 xr.a4):=(k9.below hb).cell 4
     go_wp2
     exact hK.out _ _ rfl (.refl _ _) nof
    refine steps2_cons ?_ ?_
    ·as_aux_lemma =>
     intro f w1 hb hd Q hK
     clear hd
     have hK:=Lib.hid hK
     have c0:w1.cell? ⟨G1,0,none⟩=some (.int .u64 yv.a0):=(k1.below hb).cell 0
     have c1:w1.cell? ⟨G1,1,none⟩=some (.int .u64 yv.a1):=(k1.below hb).cell 1
     have c2:w1.cell? ⟨G1,2,none⟩=some (.int .u64 yv.a2):=(k1.below hb).cell 2
     have c3:w1.cell? ⟨G1,3,none⟩=some (.int .u64 yv.a3):=(k1.below hb).cell 3
     have c4:w1.cell? ⟨G1,4,none⟩=some (.int .u64 yv.a4):=(k1.below hb).cell 4
     go_wp2
     exact hK.out _ _ rfl (.refl _ _) nof
    refine steps2_cons ?_ ?_
    ·as_aux_lemma =>
     intro f w1 hb hd Q hK
     have e64:f 64=.agg #[.int .u64 xr.a0,.int .u64 xr.a1,.int .u64 xr.a2,.int .u64 xr.a3,.int .u64 xr.a4]:=hd.1 rfl
     have e65:f 65=.agg #[.int .u64 yv.a0,.int .u64 yv.a1,.int .u64 yv.a2,.int .u64 yv.a3,.int .u64 yv.a4]:=hd.2.1 rfl
     clear hd
     simp only [e64,e65] at hK
     have hK:=Lib.hid hK
     go_wp2_with fail
     refine (fMul hxr hyv _).mono ?_
     rintro e w2 ⟨x,rfl,hx,hb2⟩
     go_wp2
     exact hK.out _ _ ⟨x,rfl,hx⟩ hb2 nof
    refine steps2_cons ?_ ?_
    ·as_aux_lemma =>
     intro f w1 hb hd Q hK
     have e61:f 61=.agg #[.int .u64 xr.a0,.int .u64 xr.a1,.int .u64 xr.a2,.int .u64 xr.a3,.int .u64 xr.a4]:=hd.1 rfl
     have e62:f 62=.agg #[.int .u64 yv.a0,.int .u64 yv.a1,.int .u64 yv.a2,.int .u64 yv.a3,.int .u64 yv.a4]:=hd.2.1 rfl
     obtain ⟨x63,e63,h63⟩:=(hd.2.2.1 rfl:ElP 1 (f 63) w1)
     obtain ⟨x66,e66,h66⟩:=(hd.2.2.2.1 rfl:ElP (XN*YN % Fe.P) (f 66) w1)
     clear hd
     simp only [e61,e62,e63,e66] at hK
     have hK:=Lib.hid hK
     refine bdPt rfl rfl e61 e62 e63 e66 ?_
     refine wpList_nil ?_
     simp only [e61,e62,e63,e66]
     exact hK.out _ _ ⟨xr,yv,x63,x66,rfl,hxr,hyv,h63,h66⟩ (.refl _ _) nof
    trivial
   intro ff yw hb hf hne
   obtain ⟨p67,q67,r67,s67,d67,hp67,hq67,hr67,hs67⟩:PtP XN YN 1 (XN*YN % Fe.P) (ff 67) yw:=hf 6 _ _ (by decide) rfl rfl
   clear hf hne
   simp only [d67]
   clear d67
   replace k0:=k0.below hb
   replace hb0:=hb0.trans (hb.mono hb0.size)
   refine stPt rfl rfl rfl rfl k0 rfl rfl (by kernel_rfl) ?_
   intro w9 k7 hgr hsz
   replace hb0:=hb0.grown hgr hb0.size (fun k hk=>by injection hk with hk;omega)
   clear hgr hsz hb
   go_wp2
   refine retPt2 rfl rfl rfl k7 rfl rfl ⟨.inl ⟨yokB hYN.out hod.out hok.out hBB.out (by exact .inl rfl),p67,q67,r67,s67,rfl,?_,?_,hr67,?_⟩,hb0⟩
   ·rw [nB_eq hYN.out,hod.out,hX];exact hp67
   ·rw [nB_eq hYN.out];exact hq67
   rw [nB_eq hYN.out,hod.out,hX];exact hs67
  have hlt9:=k9.lt
  have q0:wc.cell? ⟨g9,0,none⟩=some (.int .u64 xr.a0):=k9.cell 0
  have q1:wc.cell? ⟨g9,1,none⟩=some (.int .u64 xr.a1):=k9.cell 1
  have q2:wc.cell? ⟨g9,2,none⟩=some (.int .u64 xr.a2):=k9.cell 2
  have q3:wc.cell? ⟨g9,3,none⟩=some (.int .u64 xr.a3):=k9.cell 3
  have q4:wc.cell? ⟨g9,4,none⟩=some (.int .u64 xr.a4):=k9.cell 4
  go_wp2_with fail
  refine (fZeroV hxr hZB.out _).mono ?_
  rintro e w6 ⟨rfl,hb⟩
  clear q0 q1 q2 q3 q4
  replace k0:=k0.below hb
  replace k1:=k1.below hb
  replace k9:=k9.below hb
  replace hb0:=hb0.trans (hb.mono hb0.size)
  clear hb hlt9
  cases ZB
  ·have hlt9:=k9.lt
   have q0:w6.cell? ⟨g9,0,none⟩=some (.int .u64 xr.a0):=k9.cell 0
   have q1:w6.cell? ⟨g9,1,none⟩=some (.int .u64 xr.a1):=k9.cell 1
   have q2:w6.cell? ⟨g9,2,none⟩=some (.int .u64 xr.a2):=k9.cell 2
   have q3:w6.cell? ⟨g9,3,none⟩=some (.int .u64 xr.a3):=k9.cell 3
   have q4:w6.cell? ⟨g9,4,none⟩=some (.int .u64 xr.a4):=k9.cell 4
   go_wp2_with fail
   refine (fNeg hxr _).mono ?_
   rintro e w7 ⟨xn,rfl,hxn,hb⟩
   clear q0 q1 q2 q3 q4
   replace k0:=k0.below hb
   replace k1:=k1.below hb
   replace k9:=k9.below hb
   replace hb0:=hb0.trans (hb.mono hb0.size)
   clear hb hlt9
   have hX:Fe.gX YN true=(Fe.P-XN) % Fe.P:=by rw [gX_t,hXN.out]
   go_wp2_with (refine stEl rfl rfl rfl rfl k9 rfl ?_;intro w8 k8 hgr hsz;replace k0:=k0.grown hgr (fun h=>ne09 (by injection h));replace k1:=k1.grown hgr (fun h=>ne19 (by injection h));replace hb0:=hb0.grown hgr hb0.size (fun k hk=>by injection hk with hk;omega);clear k9 hgr hsz)
   refine wp_region_grow2 7 (fun k=>(Nat.ble 61 k&&Nat.ble k 67)) _ [] (fun j x' q=>(eg15tL yv YN XN xn).getD j (fun _ _=>True) x' q) (fun _=>false) (fun f=>#[.slice (some ⟨g,o,none⟩) 32 c,undef,.pointer (some ⟨G0,0,none⟩),.bool false,.slice (some ⟨g1,0,none⟩) 32 c1,.bool true,.pointer (some ⟨G1,0,none⟩),.bool true,.pointer (some ⟨G2,0,none⟩),.pointer (some ⟨g9,0,none⟩),.bool true,u11,u12,u13,u14,u15,u16,u17,u18,u19,u20,u21,u22,u23,u24,u25,u26,u27,u28,u29,u30,u31,u32,u33,u34,u35,u36,u37,u38,u39,u40,u41,u42,u43,u44,u45,.bool false,.bool true,.bool false,.bool true,.bool false,.bool true,.bool true,.agg #[.int .u64 xr.a0,.int .u64 xr.a1,.int .u64 xr.a2,.int .u64 xr.a3,.int .u64 xr.a4],.bool false,.bool false,u56,.bool true,.bool true,.agg #[.int .u64 xr.a0,.int .u64 xr.a1,.int .u64 xr.a2,.int .u64 xr.a3,.int .u64 xr.a4],.agg #[.int .u64 xn.a0,.int .u64 xn.a1,.int .u64 xn.a2,.int .u64 xn.a3,.int .u64 xn.a4],f 61,f 62,f 63,f 64,f 65,f 66,f 67]) (fun f=>rfl) (by kernel_rfl) (by kernel_rfl) (by kernel_rfl) (by kernel_rfl) (by kernel_rfl) (eg15tS _ _ _ _) (fun _ _ _ h=>by cases h) ?_ ?_
   ·refine steps2_cons ?_ ?_
    ·as_aux_lemma =>
     intro f w1 hb hd Q hK
     clear hd
     have hK:=Lib.hid hK
     have c0:w1.cell? ⟨g9,0,none⟩=some (.int .u64 xn.a0):=(k8.below hb).cell 0
     have c1:w1.cell? ⟨g9,1,none⟩=some (.int .u64 xn.a1):=(k8.below hb).cell 1
     have c2:w1.cell? ⟨g9,2,none⟩=some (.int .u64 xn.a2):=(k8.below hb).cell 2
     have c3:w1.cell? ⟨g9,3,none⟩=some (.int .u64 xn.a3):=(k8.below hb).cell 3
     have c4:w1.cell? ⟨g9,4,none⟩=some (.int .u64 xn.a4):=(k8.below hb).cell 4
     go_wp2
     exact hK.out _ _ rfl (.refl _ _) nof
    refine steps2_cons ?_ ?_
    ·as_aux_lemma =>
     intro f w1 hb hd Q hK
     clear hd
     have hK:=Lib.hid hK
     have c0:w1.cell? ⟨G1,0,none⟩=some (.int .u64 yv.a0):=(k1.below hb).cell 0
     have c1:w1.cell? ⟨G1,1,none⟩=some (.int .u64 yv.a1):=(k1.below hb).cell 1
     have c2:w1.cell? ⟨G1,2,none⟩=some (.int .u64 yv.a2):=(k1.below hb).cell 2
     have c3:w1.cell? ⟨G1,3,none⟩=some (.int .u64 yv.a3):=(k1.below hb).cell 3
     have c4:w1.cell? ⟨G1,4,none⟩=some (.int .u64 yv.a4):=(k1.below hb).cell 4
     go_wp2
     exact hK.out _ _ rfl (.refl _ _) nof
    refine steps2_cons ?_ ?_
    ·as_aux_lemma =>
     intro f w1 hb hd Q hK
     clear hd
     have hK:=Lib.hid hK
     go_wp2_with fail
     refine (fOne _).mono ?_
     rintro e w2 ⟨rfl,hb2⟩
     go_wp2
     exact hK.out _ _ ⟨⟨1,0,0,0,0⟩,rfl,el_one⟩ hb2 nof
    refine steps2_cons ?_ ?_
    ·as_aux_lemma =>
     intro f w1 hb hd Q hK
     clear hd
     have hK:=Lib.hid hK
     have c0:w1.cell? ⟨g9,0,none⟩=some (.int .u64 xn.a0):=(k8.below hb).cell 0
     have c1:w1.cell? ⟨g9,1,none⟩=some (.int .u64 xn.a1):=(k8.below hb).cell 1
     have c2:w1.cell? ⟨g9,2,none⟩=some (.int .u64 xn.a2):=(k8.below hb).cell 2
     have c3:w1.cell? ⟨g9,3,none⟩=some (.int .u64 xn.a3):=(k8.below hb).cell 3
     have c4:w1.cell? ⟨g9,4,none⟩=some (.int .u64 xn.a4):=(k8.below hb).cell 4
     go_wp2
     exact hK.out _ _ rfl (.refl _ _) nof
    refine steps2_cons ?_ ?_
    ·as_aux_lemma =>
     intro f w1 hb hd Q hK
     clear hd
     have hK:=Lib.hid hK
     have c0:w1.cell? ⟨G1,0,none⟩=some (.int .u64 yv.a0):=(k1.below hb).cell 0
     have c1:w1.cell? ⟨G1,1,none⟩=some (.int .u64 yv.a1):=(k1.below hb).cell 1
     have c2:w1.cell? ⟨G1,2,none⟩=some (.int .u64 yv.a2):=(k1.below hb).cell 2
     have c3:w1.cell? ⟨G1,3,none⟩=some (.int .u64 yv.a3):=(k1.below hb).cell 3
     have c4:w1.cell? ⟨G1,4,none⟩=some (.int .u64 yv.a4):=(k1.below hb).cell 4
     go_wp2
     exact hK.out _ _ rfl (.refl _ _) nof
    refine steps2_cons ?_ ?_
    ·as_aux_lemma =>
     intro f w1 hb hd Q hK
     have e64:f 64=.agg #[.int .u64 xn.a0,.int .u64 xn.a1,.int .u64 xn.a2,.int .u64 xn.a3,.int .u64 xn.a4]:=hd.1 rfl
     have e65:f 65=.agg #[.int .u64 yv.a0,.int .u64 yv.a1,.int .u64 yv.a2,.int .u64 yv.a3,.int .u64 yv.a4]:=hd.2.1 rfl
     clear hd
     simp only [e64,e65] at hK
     have hK:=Lib.hid hK
     go_wp2_with fail
     refine (fMul hxn hyv _).mono ?_
     rintro e w2 ⟨x,rfl,hx,hb2⟩
     go_wp2
     exact hK.out _ _ ⟨x,rfl,hx⟩ hb2 nof
    refine steps2_cons ?_ ?_
    ·as_aux_lemma =>
     intro f w1 hb hd Q hK
     have e61:f 61=.agg #[.int .u64 xn.a0,.int .u64 xn.a1,.int .u64 xn.a2,.int .u64 xn.a3,.int .u64 xn.a4]:=hd.1 rfl
     have e62:f 62=.agg #[.int .u64 yv.a0,.int .u64 yv.a1,.int .u64 yv.a2,.int .u64 yv.a3,.int .u64 yv.a4]:=hd.2.1 rfl
     obtain ⟨x63,e63,h63⟩:=(hd.2.2.1 rfl:ElP 1 (f 63) w1)
     obtain ⟨x66,e66,h66⟩:=(hd.2.2.2.1 rfl:ElP (((Fe.P-XN) % Fe.P)*YN % Fe.P) (f 66) w1)
     clear hd
     simp only [e61,e62,e63,e66] at hK
     have hK:=Lib.hid hK
     refine bdPt rfl rfl e61 e62 e63 e66 ?_
     refine wpList_nil ?_
     simp only [e61,e62,e63,e66]
     exact hK.out _ _ ⟨xn,yv,x63,x66,rfl,hxn,hyv,h63,h66⟩ (.refl _ _) nof
    trivial
   intro ff yw hb hf hne
   obtain ⟨p67,q67,r67,s67,d67,hp67,hq67,hr67,hs67⟩:PtP ((Fe.P-XN) % Fe.P) YN 1 (((Fe.P-XN) % Fe.P)*YN % Fe.P) (ff 67) yw:=hf 6 _ _ (by decide) rfl rfl
   clear hf hne
   simp only [d67]
   clear d67
   replace k0:=k0.below hb
   replace hb0:=hb0.trans (hb.mono hb0.size)
   refine stPt rfl rfl rfl rfl k0 rfl rfl (by kernel_rfl) ?_
   intro w9 k7 hgr hsz
   replace hb0:=hb0.grown hgr hb0.size (fun k hk=>by injection hk with hk;omega)
   clear hgr hsz hb
   go_wp2
   refine retPt2 rfl rfl rfl k7 rfl rfl ⟨.inl ⟨yokB hYN.out hod.out hok.out hBB.out (by exact .inr ⟨_,hXN.out,hZB.out⟩),p67,q67,r67,s67,rfl,?_,?_,hr67,?_⟩,hb0⟩
   ·rw [nB_eq hYN.out,hod.out,hX];exact hp67
   ·rw [nB_eq hYN.out];exact hq67
   rw [nB_eq hYN.out,hod.out,hX];exact hs67
  go_wp2_with (refine stPt rfl rfl rfl rfl k0 rfl rfl (by kernel_rfl) ?_;intro w9 k7 hgr hsz)
  exact retPt2 rfl rfl rfl k7 rfl rfl ⟨.inr ⟨nokB hYN.out hod.out (.inr ⟨rfl,_,hXN.out,hZB.out⟩),rfl⟩,hb0.grown hgr hb0.size (fun k hk=>by injection hk with hk;omega)⟩
end Go.Proofs.YtnopjabcdloepaaGreatDoor
