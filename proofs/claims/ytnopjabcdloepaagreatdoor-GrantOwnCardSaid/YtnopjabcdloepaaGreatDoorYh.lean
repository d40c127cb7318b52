import Derived.Test.YtnopjabcdloepaaGreatDoorYg
import Derived.Test.YtnopjabcdloepaaGreatDoorMb
namespace Sc
open Go.Proofs.YtnopjabcdloepaaGreatDoor
def upd1 (F:Nat→Int) (j:Nat) (x:Int):Nat→Int:=fun i=>if i=j then F i+x else F i
theorem leV_congr {f g:Nat→Int}:∀ n,(∀ j,j<n→f j=g j)→leV f n=leV g n
 | 0,_=>rfl
 | n+1,h=>by rw [leV,leV,leV_congr n (fun j hj=>h j (by omega)),h n (by omega)]
theorem leV_upd1 (F:Nat→Int) (j:Nat) (x:Int):∀ n,j<n→leV (upd1 F j x) n=leV F n+256 ^ j*x
 | 0,h=>by omega
 | n+1,h=>by
  rw [leV,leV]
  by_cases e:j=n
  ·subst e
   rw [leV_congr j (g:=F) (fun i hi=>by unfold upd1;rw [if_neg (by omega)])]
   unfold upd1
   rw [if_pos rfl,Int.mul_add]
   omega
  rw [leV_upd1 F j x n (by omega)]
  have:upd1 F j x n=F n:=by unfold upd1;rw [if_neg (by omega)]
  rw [this]
  omega
theorem leV_zero:∀ n,leV (fun _=>0) n=0
 | 0=>rfl
 | n+1=>by rw [leV,leV_zero n];simp
theorem leV_succ (b:Nat→Int) (n:Nat):leV b (n+1)=leV b n+256 ^ n*b n:=rfl
def rowI (x:Int) (b:Nat→Int) (i:Nat) (F:Nat→Int):Nat→Nat→Int
 | 0=>F
 | q+1=>upd1 (rowI x b i F q) (i+q) (x*b q)
def tabI (a b c:Nat→Int):Nat→Nat→Int
 | 0=>fun _=>0
 | i+1=>rowI (a i) b i (upd1 (tabI a b c i) i (c i)) 32
def Byt (b:Nat→Int):Prop:=∀ j,0≤b j∧b j<256
theorem mul_bd {x y:Int} (hx:0≤x∧x<256) (hy:0≤y∧y<256):0≤x*y∧x*y≤65025:=by
 refine ⟨Int.mul_nonneg hx.1 hy.1,?_⟩
 have h1:x*y≤255*y:=Int.mul_le_mul_of_nonneg_right (by omega) hy.1
 omega
theorem rowI_bd {x:Int} {b:Nat→Int} (hx:0≤x∧x<256) (hb:Byt b) {i:Nat} {F:Nat→Int} {M:Int} (hF:∀ j,0≤F j∧F j≤M):∀ q j,0≤rowI x b i F q j∧rowI x b i F q j≤M+(if j<i+q then 65025 else 0)
 | 0,j=>by
  have:=hF j
  show 0≤F j∧F j≤_
  split <;> omega
 | q+1,j=>by
  have ih:=rowI_bd (i:=i) hx hb hF q j
  have hm:=mul_bd hx (hb q)
  unfold rowI upd1
  by_cases e:j=i+q
  ·subst e
   rw [if_pos rfl,if_pos (by omega)]
   rw [if_neg (by omega)] at ih
   omega
  rw [if_neg e]
  by_cases h:j<i+q
  ·rw [if_pos h] at ih
   rw [if_pos (by omega)]
   exact ih
  rw [if_neg h] at ih
  rw [if_neg (by omega)]
  exact ih
theorem tabI_bd {a b c:Nat→Int} (ha:Byt a) (hb:Byt b) (hc:Byt c):∀ i j,0≤tabI a b c i j∧tabI a b c i j≤65280*i
 | 0,j=>by simp [tabI]
 | i+1,j=>by
  have h1:∀ j,0≤upd1 (tabI a b c i) i (c i) j∧upd1 (tabI a b c i) i (c i) j≤65280*i+255:=fun j=>by
   have ih:=tabI_bd ha hb hc i j
   have:=hc i
   unfold upd1
   split <;> omega
  have h2:=rowI_bd (i:=i) (ha i) hb h1 32 j
  show 0≤rowI (a i) b i (upd1 (tabI a b c i) i (c i)) 32 j∧rowI (a i) b i (upd1 (tabI a b c i) i (c i)) 32 j≤_
  split at h2 <;> omega
theorem rowI_val (x:Int) (b:Nat→Int) (i:Nat) (F:Nat→Int):∀ q,i+q≤66→leV (rowI x b i F q) 66=leV F 66+256 ^ i*(x*leV b q)
 | 0,_=>by simp [rowI,leV]
 | q+1,h=>by
  rw [rowI,leV_upd1 _ _ _ 66 (by omega),rowI_val x b i F q (by omega),leV_succ b q,Int.mul_add,Int.mul_add,Int.pow_add]
  have:(256:Int) ^ i*256 ^ q*(x*b q)=256 ^ i*(x*(256 ^ q*b q)):=by
   rw [Int.mul_assoc,← Int.mul_assoc (256 ^ q) x (b q),Int.mul_comm (256 ^ q) x,Int.mul_assoc x]
  omega
theorem tabI_val (a b c:Nat→Int):∀ i,i≤32→leV (tabI a b c i) 66=leV a i*leV b 32+leV c i
 | 0,_=>by
  show leV (fun _=>0) 66=_
  rw [leV_zero]
  simp [leV]
 | i+1,h=>by
  rw [tabI,rowI_val _ _ _ _ 32 (by omega),leV_upd1 _ _ _ 66 (by omega),tabI_val a b c i (by omega),leV_succ a i,leV_succ c i,Int.add_mul,Int.mul_assoc (256 ^ i)]
  omega
def cryI (t:Nat→Int):Nat→Int
 | 0=>0
 | i+1=>(cryI t i+t i) / 256
def outI (t:Nat→Int) (i:Nat):Int:=(cryI t i+t i) % 256
theorem cryI_bd {t:Nat→Int} (h:∀ j,0≤t j∧t j≤2088960):∀ i,0≤cryI t i∧cryI t i≤10000
 | 0=>by simp [cryI]
 | i+1=>by
  have ih:=cryI_bd h i
  have:=h i
  unfold cryI
  omega
theorem outI_val (t:Nat→Int):∀ n,leV (outI t) n+256 ^ n*cryI t n=leV t n
 | 0=>by simp [leV,cryI]
 | n+1=>by
  have ih:=outI_val t n
  rw [leV_succ,leV_succ,cryI,Int.pow_succ,Int.mul_assoc]
  have h1:outI t n+256*((cryI t n+t n) / 256)=cryI t n+t n:=by unfold outI;omega
  have h2:(256:Int) ^ n*outI t n+256 ^ n*(256*((cryI t n+t n) / 256))=256 ^ n*cryI t n+256 ^ n*t n:=by
   rw [← Int.mul_add,h1,Int.mul_add]
  omega
theorem outI_r (t:Nat→Int):Byt (outI t):=fun j=>by unfold outI;omega
theorem muladd_val {a b c:Nat→Int} (ha:Byt a) (hb:Byt b) (hc:Byt c):leV (outI (tabI a b c 32)) 66=leV a 32*leV b 32+leV c 32:=by
 have h1:=outI_val (tabI a b c 32) 66
 rw [tabI_val a b c 32 (by decide)] at h1
 have h2:=leV_bd ha 32
 have h3:=leV_bd hb 32
 have h4:=leV_bd hc 32
 have h5:=leV_bd (outI_r (tabI a b c 32)) 66
 have h6:=cryI_bd (t:=tabI a b c 32) (fun j=>by have:=tabI_bd ha hb hc 32 j;omega) 66
 have h7:leV a 32*leV b 32≤256 ^ 32*leV b 32:=Int.mul_le_mul_of_nonneg_right (by omega) h3.1
 have h8:cryI (tabI a b c 32) 66=0:=by
  refine Classical.byContradiction fun hn=>?_
  have:256 ^ 66*1≤256 ^ 66*cryI (tabI a b c 32) 66:=Int.mul_le_mul_of_nonneg_left (by omega) (by decide)
  omega
 rw [h8] at h1
 omega
end Sc
namespace Go.Proofs.YtnopjabcdloepaaGreatDoor
open Go.RowKit
def uL (n:Nat) (F:Nat→Int):List Value:=(List.range n).map fun j=>.int .u64 (F j)
def RowU (w:World) (g n:Nat) (F:Nat→Int):Prop:=Blk w g 200 (uL n F).toArray
theorem RowU.lt {w:World} {g n:Nat} {F:Nat→Int} (h:RowU w g n F):g<w.heap.size:=Blk.lt h
theorem RowU.below {w w':World} {g n:Nat} {F:Nat→Int} (h:RowU w g n F) (hb:Below w.heap.size w w'):RowU w' g n F:=Blk.below h hb
theorem RowU.cell {w:World} {g n:Nat} {F:Nat→Int} (h:RowU w g n F) (j:Nat) (hj:j<n):w.cell? ⟨g,j,none⟩=some (.int .u64 (F j)):=by
 have:=Blk.cell h j
 rw [this]
 simp [uL,hj]
theorem RowU.frozen {w:World} {g n:Nat} {F:Nat→Int} (h:RowU w g n F) (j:Nat):w.frozen? ⟨g,j,none⟩=false:=Blk.frozen h j
theorem RowU.set_ {w:World} {g n:Nat} {F:Nat→Int} (h:RowU w g n F) (j:Nat) (x:Int):RowU (w.setCell ⟨g,j,none⟩ (.int .u64 x)) g n (fun i=>if i=j then x else F i):=by
 have h2:=Blk.set_ h j (.int .u64 x)
 unfold RowU
 have e:((uL n F).toArray.setIfInBounds j (.int .u64 x))=(uL n (fun i=>if i=j then x else F i)).toArray:=by
  apply Array.ext_getElem?
  intro i
  simp only [List.setIfInBounds_toArray,List.getElem?_toArray,List.getElem?_set,uL,List.length_map,List.length_range,List.getElem?_map]
  by_cases e:j=i
  ·subst e
   by_cases h:j<n
   ·simp [h]
   simp [h]
  rw [if_neg e]
  by_cases h:i<n
  ·simp [h,Ne.symm e]
  simp [h]
 rw [e] at h2
 exact h2
theorem RowU.congr {w:World} {g n:Nat} {F F':Nat→Int} (h:RowU w g n F) (he:∀ i,i<n→F i=F' i):RowU w g n F':=by
 have e:uL n F=uL n F':=List.map_congr_left fun i hi=>by rw [he i (List.mem_range.1 hi)]
 unfold RowU at *
 rw [← e]
 exact h
set_option maxRecDepth 20000 in
set_option maxHeartbeats 2000000 in
theorem len32_c (p:Option Addr) (c:Nat) (w:World):Calls Tryz.prog 347 #[.slice p 32 c] w fun e w'=>e=.returned (.bool false)∧w=w':=by
 go_enter Tryz.func347,Tryz.ntmps347
 go_wp2
 go_returns
 exact ⟨rfl,rfl⟩
set_option maxRecDepth 20000 in
set_option maxHeartbeats 2000000 in
theorem scalars_c (p1 p2 p3:Option Addr) (c1 c2 c3 g:Nat) (w:World) (hR:Blk w g 22 #[.slice p1 32 c1,.slice p2 32 c2,.slice p3 32 c3]):Calls Tryz.prog 306 #[.slice (some ⟨g,0,none⟩) 3 3] w fun e w'=>e=.returned (.bool true)∧w=w':=by
 have c0:=hR.cell 0
 have c1:=hR.cell 1
 have c2:=hR.cell 2
 simp only [List.getElem?_toArray,List.getElem?_cons_zero,List.getElem?_cons_succ] at c0 c1 c2
 have hI:Calls Tryz.prog 364 #[.slice (some ⟨g,0,none⟩) 3 3,.func (.func 347) #[] #[]] w fun e w'=>e=.returned (.int .i64 (-1))∧w=w':=by
  go_enter Tryz.func364,Tryz.ntmps364
  go_wp2
  refine wp_loop_rounds 4 ?_
  rw [rounds_succ]
  go_wp2_with (refine (len32_c _ _ _).mono ?_;rintro e w1 ⟨rfl,rfl⟩)
  rw [rounds_succ]
  go_wp2_with (refine (len32_c _ _ _).mono ?_;rintro e w1 ⟨rfl,rfl⟩)
  rw [rounds_succ]
  go_wp2_with (refine (len32_c _ _ _).mono ?_;rintro e w1 ⟨rfl,rfl⟩)
  rw [rounds_succ]
  go_wp2
  go_returns
  exact ⟨rfl,rfl⟩
 replace hI:=Lib.hid hI
 have hC:Calls Tryz.prog 346 #[.slice (some ⟨g,0,none⟩) 3 3,.func (.func 347) #[] #[]] w fun e w'=>e=.returned (.bool false)∧w=w':=by
  go_enter Tryz.func346,Tryz.ntmps346
  go_wp2_with (refine hI.out.mono ?_;rintro e w1 ⟨rfl,rfl⟩)
  go_returns
  exact ⟨rfl,rfl⟩
 replace hC:=Lib.hid hC
 go_enter Tryz.func306,Tryz.ntmps306
 go_wp2_with (refine hC.out.mono ?_;rintro e w1 ⟨rfl,rfl⟩)
 go_returns
 exact ⟨rfl,rfl⟩
end Go.Proofs.YtnopjabcdloepaaGreatDoor
namespace Go.Proofs.YtnopjabcdloepaaGreatDoor
open Go.RowKit
def toF (f:Nat→Int):Nat→Fin 256:=fun j=>⟨(f j % 256).toNat,by omega⟩
theorem toF_val {f:Nat→Int} {j:Nat} (h:0≤f j∧f j<256):((toF f j).val:Int)=f j:=by
 unfold toF
 dsimp only
 omega
theorem u64_small {x:Int} (h0:0≤x) (h1:x≤100000000):IntKind.u64.wrap x=x:=by rw [IntKind.wrap_u64];omega
theorem rd_cell {w W:World} {g o n:Nat} {b:Nat→Int} (hg:g<w.heap.size) (hc:∀ j,j<n→w.cell? ⟨g,o+j,none⟩=some (.int .u8 (b j))) (hb:Below w.heap.size w W) (j:Nat) (hj:j<n):W.cell? ⟨g,o+j,none⟩=some (.int .u8 (b j)):=(hb.cell (p:=⟨g,o+j,none⟩) hg).trans (hc j hj)
set_option maxRecDepth 20000 in
set_option maxHeartbeats 4000000 in
theorem muladd_c (g1 o1 c1 g2 o2 c2 g3 o3 c3:Nat) (a b c:Nat→Int) (ha:Sc.Byt a) (hb:Sc.Byt b) (hc:Sc.Byt c) (w:World) (k1:g1<w.heap.size) (e1:∀ j,j<32→w.cell? ⟨g1,o1+j,none⟩=some (.int .u8 (a j))) (k2:g2<w.heap.size) (e2:∀ j,j<32→w.cell? ⟨g2,o2+j,none⟩=some (.int .u8 (b j))) (k3:g3<w.heap.size) (e3:∀ j,j<32→w.cell? ⟨g3,o3+j,none⟩=some (.int .u8 (c j))) :
  Calls Tryz.prog 215 #[.slice (some ⟨g1,o1,none⟩) 32 c1,.slice (some ⟨g2,o2,none⟩) 32 c2,.slice (some ⟨g3,o3,none⟩) 32 c3] w (PostBs 32 (Sc.byt ((Sc.leV a 32*Sc.leV b 32+Sc.leV c 32) % LI)) w):=by
 have E1:=Lib.hid (fun W hb=>rd_cell (W:=W) k1 e1 hb)
 have E2:=Lib.hid (fun W hb=>rd_cell (W:=W) k2 e2 hb)
 have E3:=Lib.hid (fun W hb=>rd_cell (W:=W) k3 e3 hb)
 clear k1 e1 k2 e2 k3 e3
 have hbd:=Lib.hid (Sc.tabI_bd ha hb hc)
 have hrb:=Lib.hid (fun i=>Sc.rowI_bd (i:=i) (ha i) hb (F:=Sc.upd1 (Sc.tabI a b c i) i (c i)) (M:=65280*i+255) (fun j=>by
  have ih:=Sc.tabI_bd ha hb hc i j
  have:=hc i
  unfold Sc.upd1
  split <;> omega))
 have hval:=Lib.hid (Sc.muladd_val ha hb hc)
 have hm:=Lib.hid (fun i q=>Sc.mul_bd (ha i) (hb q))
 replace ha:=Lib.hid ha
 replace hb:=Lib.hid hb
 replace hc:=Lib.hid hc
 have hmk:∀ w,(Instr.makeSlice 272 (.int .i64 66) (.int .i64 66)).run Tryz.prog w=.ok (.slice (some ⟨w.heap.size,0,none⟩) 66 66) (w.alloc (.cells (uL 66 (fun _=>0)).toArray 200)):=fun _=>by kernel_rfl
 go_enter Tryz.func215,Tryz.ntmps215
 go_wp2_with (refine (scalars_c _ _ _ _ _ _ _ _ (Blk.new _ _ _)).mono ?_;rintro e w1 ⟨rfl,rfl⟩)
 refine at_world (fun W0 hW=>?_)
 have hT:RowU W0 (w.heap.size+1) 66 (Sc.tabI a b c 0):=by rw [hW];exact blk_at (by simp) (Blk.new _ _ _)
 have hb0:Below w.heap.size w W0:=by rw [hW];go_grown
 clear hW hmk
 have hmk:∀ w,(Instr.makeSlice 22 (.int .i64 66) (.int .i64 66)).run Tryz.prog w=.ok (.slice (some ⟨w.heap.size,0,none⟩) 66 66) (w.alloc (.cells (cB 66 (fun _=>0)).toArray 5)):=fun _=>by kernel_rfl
 obtain ⟨GT,hGT⟩:∃ GT,GT=w.heap.size+1:=⟨_,rfl⟩
 rw [← hGT] at hT ⊢
 have loT:w.heap.size≤GT:=by omega
 clear hGT
 go_loopw [21] (fun t wr=>∃ i:Nat,i≤32∧t=.int .i64 i∧RowU wr GT 66 (Sc.tabI a b c i)∧Below w.heap.size w wr) (fun t _=>(32-intOf t).toNat)
 case atStart=>exact ⟨0,by omega,rfl,hT,hb0⟩
 case round =>
  clear hT hb0
  obtain ⟨i,hi,ht,hT,hb0⟩:=hrel
  subst ht
  by_cases he:i=32
  ·subst he
   rw [show ((32:Nat):Int)=32 from rfl]
   have hbd2:=Lib.hid (fun j=>hbd.out 32 j)
   generalize hTE:Sc.tabI a b c 32=T at *
   clear hTE hbd hrb E1 E2 E3
   replace hT:=Lib.hid hT
   replace hb0:=Lib.hid hb0
   go_wp2
   refine at_world (fun W1 hW=>?_)
   have hO:RowB W1 wr.heap.size 66 66 (fun _=>0):=by rw [hW];exact ⟨_,heap_alloc_new wr _,Nat.le_refl _,by unfold maxLen;decide,by simp [cB],by rw [List.toList_toArray];exact List.take_of_length_le (by simp [cB])⟩
   have hbW:Below wr.heap.size wr W1:=by rw [hW];exact (Below.refl _ _).alloc (Nat.le_refl _) _
   have hT1:RowU W1 GT 66 T:=hT.out.below hbW
   have hb1:Below w.heap.size w W1:=hb0.out.trans (hbW.mono hb0.out.size)
   have nTO:GT≠wr.heap.size:=by have:=hT.out.lt;omega
   have loO:w.heap.size≤wr.heap.size:=hb0.out.size
   clear hW hbW hT hb0 hmk
   generalize wr.heap.size=GO at *
   go_loopw [11,64] (fun cy t wr=>∃ i:Nat,i≤66∧t=.int .i64 i∧cy=.int .u64 (Sc.cryI T i)∧RowU wr GT 66 T∧RowB wr GO 66 66 (fun j=>if j<i then Sc.outI T j else 0)∧Below w.heap.size w wr) (fun _ t _=>(66-intOf t).toNat)
   case atStart=>exact ⟨0,by omega,rfl,rfl,hT1,hO,hb1⟩
   case round =>
    clear hT1 hO hb1
    obtain ⟨i,hi,ht,hcy,hT,hO,hb1⟩:=hrel
    subst ht hcy
    by_cases he:i=66
    ·subst he
     rw [show ((66:Nat):Int)=66 from rfl]
     have hO2:RowB wr GO 66 66 (Sc.outI T):=hO.congr fun j hj=>by rw [if_pos hj]
     have hBA:BAt wr (some ⟨GO,0,none⟩) 66 (fun j=>((toF (Sc.outI T) j).val:Int)):=fun _=>⟨GO,0,rfl,hO2.lt,fun j hj=>by rw [Nat.zero_add];show wr.cell? ⟨GO,j,none⟩=some (Value.int .u8 ((toF (Sc.outI T) j).val:Int));rw [toF_val (Sc.outI_r T j)];exact hO2.cell j hj⟩
     have hrd:=reduced_c (some ⟨GO,0,none⟩) 66 66 (by decide) (toF (Sc.outI T)) wr hBA
     rw [Sc.leV_congr 66 (f:=fun j=>((toF (Sc.outI T) j).val:Int)) (g:=Sc.outI T) (fun j _=>toF_val (Sc.outI_r T j)),hval.out] at hrd
     replace hrd:=Lib.hid hrd
     replace hb1:=Lib.hid hb1
     clear hO hO2 hBA hT
     go_wp2_with fail
     refine hrd.out.mono ?_
     rintro e w5 ⟨g,cc,rfl,hg,hR,hb5⟩
     have hP:PostBs 32 (Sc.byt ((Sc.leV a 32*Sc.leV b 32+Sc.leV c 32) % LI)) w (.returned (.slice (some ⟨g,0,none⟩) 32 cc)) w5:=⟨g,cc,rfl,Nat.le_trans hb1.out.size hg,hR,hb1.out.trans (hb5.mono hb1.out.size)⟩
     replace hP:=Lib.hid hP
     clear hR hb5 hg hb1 hrd hval
     go_wp2
     go_returns
     exact hP.out
    have hi0:(0:Int)≤(i:Int):=by omega
    have hi1:(i:Int)<66:=by omega
    have y:=hT.cell i (by omega)
    have fO:=fun j=>hO.frozen j
    have y2:=hO.cell i (by omega)
    have hcb:=Sc.cryI_bd (t:=T) (fun j=>by have:=hbd2.out j;omega) i
    have hu:IntKind.u64.wrap (Sc.cryI T i+T i)=Sc.cryI T i+T i:=u64_small (by have:=hbd2.out i;omega) (by have:=hbd2.out i;omega)
    have hO1:=Lib.hid ((hO.set_ i (by omega) ((Sc.cryI T i+T i) % 256)).congr (f':=fun j=>if j<i+1 then Sc.outI T j else 0) (fun j _=>by
     by_cases h:j=i
     ·subst h
      rw [if_pos rfl,if_pos (by omega)]
      rfl
     rw [if_neg h]
     by_cases h2:j<i
     ·rw [if_pos h2,if_pos (by omega)]
     rw [if_neg h2,if_neg (by omega)]))
    have hb2:=Lib.hid (hb1.setCell (p:=⟨GO,i,none⟩) loO (.int .u8 ((Sc.cryI T i+T i) % 256)))
    have hT2:=Lib.hid (show RowU (wr.setCell ⟨GO,i,none⟩ (.int .u8 ((Sc.cryI T i+T i) % 256))) GT 66 T from Blk.far hT nTO _)
    clear hT hO hb1 hcb
    go_wp2
    exact ⟨⟨i+1,by omega,by simp,rfl,hT2.out,hO1.out,hb2.out⟩,by simp [intOf];omega⟩
  have hi0:(0:Int)≤(i:Int):=by omega
  have hi1:(i:Int)<32:=by omega
  have x3:=E3.out _ hb0 i (by omega)
  have y:=hT.cell i (by omega)
  have fT:=fun j=>hT.frozen j
  have hu0:IntKind.u64.wrap (c i)=c i:=u64_small (hc.out i).1 (by have:=(hc.out i).2;omega)
  have hu:IntKind.u64.wrap (Sc.tabI a b c i i+c i)=Sc.tabI a b c i i+c i:=u64_small (by have:=(hbd.out i i).1;have:=(hc.out i).1;omega) (by have:=(hbd.out i i).2;have:=(hc.out i).2;omega)
  have hT1:=Lib.hid ((hT.set_ i (Sc.tabI a b c i i+c i)).congr (F':=Sc.upd1 (Sc.tabI a b c i) i (c i)) (fun j _=>by unfold Sc.upd1;by_cases h:j=i;(subst h;rw [if_pos rfl]);rw [if_neg h,if_neg h]))
  have hb1:=Lib.hid (hb0.setCell (p:=⟨GT,i,none⟩) loT (.int .u64 (Sc.tabI a b c i i+c i)))
  clear hT hb0
  go_wp2
  go_region
  go_wp2
  refine at_world (fun W1 hW=>?_)
  have hT2:RowU W1 GT 66 (Sc.rowI (a i) b i (Sc.upd1 (Sc.tabI a b c i) i (c i)) 0):=by rw [hW];exact hT1.out
  have hb2:Below w.heap.size w W1:=by rw [hW];exact hb1.out.drew
  have hx1:=Lib.hid (fun W hb=>E1.out W hb i (by omega))
  clear hW hT1 hb1 x3 y fT hu hu0
  go_loopw [35] (fun t wr=>∃ q:Nat,q≤32∧t=.int .i64 q∧RowU wr GT 66 (Sc.rowI (a i) b i (Sc.upd1 (Sc.tabI a b c i) i (c i)) q)∧Below w.heap.size w wr) (fun t _=>(32-intOf t).toNat)
  case atStart=>exact ⟨0,by omega,rfl,hT2,hb2⟩
  case round =>
   clear hT2 hb2
   obtain ⟨q,hq,ht,hT,hb0⟩:=hrel
   subst ht
   by_cases he:q=32
   ·subst he
    rw [show ((32:Nat):Int)=32 from rfl]
    go_wp2
    exact ⟨⟨i+1,by omega,by simp,hT,hb0⟩,by simp [intOf];omega⟩
   have hq0:(0:Int)≤(q:Int):=by omega
   have hq1:(q:Int)<32:=by omega
   have hs1:IntKind.i64.wrap ((i:Int)+(q:Int))=(i:Int)+(q:Int):=IntWalk.i64_in _ (by omega)
   have x1:=hx1.out _ hb0
   have x2:=E2.out _ hb0 q (by omega)
   have hbq:=hrb.out i q (i+q)
   rw [if_neg (by omega)] at hbq
   have hmq:=hm.out i q
   obtain ⟨F,hF⟩:∃ F,F=Sc.rowI (a i) b i (Sc.upd1 (Sc.tabI a b c i) i (c i)) q:=⟨_,rfl⟩
   have hF2:Sc.rowI (a i) b i (Sc.upd1 (Sc.tabI a b c i) i (c i)) (q+1)=Sc.upd1 F (i+q) (a i*b q):=by rw [hF];rfl
   rw [← hF] at hT hbq
   replace hF2:=Lib.hid hF2
   clear hF
   have y:=hT.cell (i+q) (by omega)
   have fT:=fun j=>hT.frozen j
   have hua:IntKind.u64.wrap (a i)=a i:=u64_small (ha.out i).1 (by have:=(ha.out i).2;omega)
   have hub:IntKind.u64.wrap (b q)=b q:=u64_small (hb.out q).1 (by have:=(hb.out q).2;omega)
   have hu1:IntKind.u64.wrap (a i*b q)=a i*b q:=u64_small hmq.1 (by omega)
   have hu:IntKind.u64.wrap (F (i+q)+a i*b q)=F (i+q)+a i*b q:=u64_small (by omega) (by omega)
   have hT1:=Lib.hid ((hT.set_ (i+q) (F (i+q)+a i*b q)).congr (F':=Sc.upd1 F (i+q) (a i*b q)) (fun j _=>by unfold Sc.upd1;by_cases h:j=i+q;(subst h;rw [if_pos rfl]);rw [if_neg h,if_neg h]))
   have hb1:=Lib.hid (hb0.setCell (p:=⟨GT,i+q,none⟩) loT (.int .u64 (F (i+q)+a i*b q)))
   clear hT hb0 hbq hmq
   go_wp2
   go_region
   obtain ⟨w3,hw⟩:∃ w',w'=(wr.setCell ⟨GT,i+q,none⟩ (.int .u64 (F (i+q)+a i*b q))).drew:=⟨_,rfl⟩
   rw [← hw]
   have hT3:RowU w3 GT 66 (Sc.rowI (a i) b i (Sc.upd1 (Sc.tabI a b c i) i (c i)) (q+1)):=by rw [hw,hF2.out];exact hT1.out
   have hb3:Below w.heap.size w w3:=by rw [hw];exact hb1.out.drew
   clear hw hT1 hb1 hF2
   go_wp2
   exact ⟨⟨q+1,by omega,by simp,hT3,hb3⟩,by simp [intOf];omega⟩
end Go.Proofs.YtnopjabcdloepaaGreatDoor
