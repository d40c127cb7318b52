import Derived.Test.YtnopjabcdloepaaGreatDoorEh
import Derived.Test.YtnopjabcdloepaaGreatDoorZb
import Derived.Laws.CopyRow
import Derived.Great.BuildSlice
import Derived.Lib.AppendZerosOnto
namespace Fe
def bb (j:Nat):Int:=if j=0 then 88 else 102
theorem bb_r (j:Nat):0≤bb j∧bb j<256:=by unfold bb;split <;> omega
def bY:Nat:=46316835694926478169428394003475163141307993866256225615783033603165251855960
def bX:Nat:=15112221349535400772501151409588531511454012693041857206046113283949847762202
theorem odB_bb:odB bb=false:=by decide
theorem nB_bb:nB bb=bY:=by
 unfold nB
 have h:=val_get (clr_r bb_r)
 have h2:sy (clr bb) 31+clr bb 31 % 128*256 ^ 31=(bY:Int):=by decide +kernel
 rw [h2] at h
 have h3:=nv_int (getE (clr bb) 255)
 rw [h] at h3
 have h4:((bY:Int) % p)=(bY:Int):=by decide +kernel
 rw [h4] at h3
 exact Int.ofNat.inj h3
theorem getOk_bb:Go.Proofs.YtnopjabcdloepaaGreatDoor.getOk (clr bb)=true:=by
 rw [ok_same (clr_r bb_r)]
 decide +kernel
theorem bN_bb:bN (uN bY) (vN bY)=true∧rN (uN bY) (vN bY)=bX:=by
 unfold bN rN
 rw [r0F_eq,K2F_eq]
 decide +kernel
theorem gB_bb:gB bY false=true:=by
 unfold gB
 rw [bN_bb.1]
 rfl
theorem okB_bb:okB bb=true:=by
 unfold okB
 rw [getOk_bb,nB_bb,odB_bb,gB_bb]
 rfl
theorem gX_bb:gX bY false=bX:=by rw [Go.Proofs.YtnopjabcdloepaaGreatDoor.gX_f,bN_bb.2]
theorem cv_base:Cv (zf bX) (zf bY):=by
 have h:=(pa_got (by unfold bY P;decide) gB_bb).cv
 rw [gX_bb] at h
 exact h
end Fe
namespace Go.Proofs.YtnopjabcdloepaaGreatDoor
open Go.RowKit
theorem grown_setRow (w:World) (g:Nat) (cs:Array Value):w.grownBy (w.setRow g cs) (some g):=by
 refine ⟨rfl,rfl,rfl,by simp,fun i hi hne=>?_⟩
 have h:g≠i:=fun e=>hne (by rw [e])
 simp only [World.setRow,Array.getElem?_modify,h,if_false]
section
variable {ops:Array Oper} {rest:List Oper} {o:Oper} {a:Act} {w:World} {Q:Exit→Act→World→Prop}
theorem wpList_cp (hgd:o.guard=none) {s x:Operand} (ho:o.op=.call { callee:=.builtin .copy,args:=#[s,x],argTypes:=#[22,22] }) {g od dl dc:Nat} (hs:a.eval s=.slice (some ⟨g,od,none⟩) dl dc)
  {ad:Addr} {m c2:Nat} (hx:a.eval x=.slice (some ad) m c2) {cur:Array Value} (hg:Blk w g 5 cur) (cs:List Value) (hn:cs.length=Nat.min m dl) (hsrc:∀ j v,cs[j]?=some v→w.cell? (ad.add j)=some v) (hfit:od+cs.length≤cur.size) (h1:∀ v∈cs,v.oneCell'=true)
  (h:∀ w',Blk w' g 5 (cur.toList.take od++cs++cur.toList.drop (od+cs.length)).toArray→w.grownBy w' (some g)→wpList Tryz.prog ops Q rest (a.put o.dst (.int .i64 cs.length)) w'):wpList Tryz.prog ops Q (o::rest) a w :=
 wpList_plain hgd fun _ hK=>by
  obtain ⟨i,hi,hz,hsz,hby⟩:=info_parts u8_infoK
  have hr:=run_copy_row (P:=Tryz.prog) w 22 22 o.type 5 g od dl dc ad m c2 cur 5 cs bs_underK (by rw [hi];simpa using hsz) hg hn hsrc hfit h1
  unfold Oper.wp execOp
  simp only [ho,resolve,invoke,builtin,Sem.run_bind,Sem.run_pure,Result.andThen_ok,List.map_toArray,List.map_cons,List.map_nil,hs,hx,hr]
  exact hK _ _ (h _ (setRow_heap w g cur _ _ _ hg) (grown_setRow _ _ _))
def rl (k:Nat):List Value:=List.replicate k (.int .u8 102)++List.replicate (32-k) (.int .u8 0)
theorem rl_len {k:Nat} (h:k≤32):(rl k).length=32:=by unfold rl;simp;omega
theorem rl_get {k j:Nat} (h:j<k):(rl k)[j]?=some (.int .u8 102):=by
 unfold rl
 rw [List.getElem?_append_left (by simpa using h),List.getElem?_replicate,if_pos h]
def RowR (w:World) (g k:Nat):Prop:=Blk w g 5 (rl k).toArray
theorem rl_step {k m:Nat} (h:k+m≤32):(rl k).take k++List.replicate m (.int .u8 102)++(rl k).drop (k+m)=rl (k+m):=by
 unfold rl
 have e1:(List.replicate k (Value.int .u8 102)++List.replicate (32-k) (Value.int .u8 0)).take k=List.replicate k (Value.int .u8 102):=by
  rw [List.take_append_of_le_length (by simp),List.take_of_length_le (by simp)]
 have e2:(List.replicate k (Value.int .u8 102)++List.replicate (32-k) (Value.int .u8 0)).drop (k+m)=List.replicate (32-(k+m)) (Value.int .u8 0):=by
  rw [List.drop_append,List.drop_eq_nil_of_le (by simp),List.nil_append,List.drop_replicate,List.length_replicate]
  congr 1
  omega
 rw [e1,e2,List.append_assoc,← List.append_assoc,List.replicate_append_replicate]
theorem wpList_cpR (k m:Nat) (hk:k+m≤32) (hgd:o.guard=none) {s x:Operand} (ho:o.op=.call { callee:=.builtin .copy,args:=#[s,x],argTypes:=#[22,22] }) {g dl dc g2 c2:Nat} (hs:a.eval s=.slice (some ⟨g,k,none⟩) dl dc)
  (hx:a.eval x=.slice (some ⟨g2,0,none⟩) m c2) (hg:RowR w g k) (hm:m≤dl) (hsrc:∀ j,j<m→w.cell? ⟨g2,j,none⟩=some (.int .u8 102))
  (h:∀ w',RowR w' g (k+m)→w.grownBy w' (some g)→wpList Tryz.prog ops Q rest (a.put o.dst (.int .i64 m)) w'):wpList Tryz.prog ops Q (o::rest) a w:=by
 refine wpList_cp hgd ho hs hx hg (List.replicate m (.int .u8 102)) (by rw [List.length_replicate];exact (Nat.min_eq_left hm).symm) (fun j v hv=>?_) ?_ (fun v hv=>by rw [(List.mem_replicate.1 hv).2];rfl) (fun w' hw hgr=>?_)
 ·rw [List.getElem?_replicate] at hv
  split at hv
  ·rename_i hj
   cases hv
   have:=hsrc j hj
   rw [add_o,Nat.zero_add]
   exact this
  cases hv
 ·rw [List.length_replicate,List.size_toArray,rl_len (by omega)];omega
 rw [List.length_replicate]
 refine h w' ?_ hgr
 have hl:(rl k).toArray.toList=rl k:=rfl
 rw [List.length_replicate,hl,rl_step hk] at hw
 exact hw
theorem run_cpR (w:World) (ty:TypeId) (k m:Nat) (hk:k+m≤32) {g dl dc g2 c2:Nat} (hg:RowR w g k) (hm:m≤dl) (hsrc:∀ j,j<m→w.cell? ⟨g2,j,none⟩=some (.int .u8 102)) :
  (Builtin.copy_ #[22,22] ty #[.slice (some ⟨g,k,none⟩) dl dc,.slice (some ⟨g2,0,none⟩) m c2]).run Tryz.prog w=.ok (.int .i64 m) (w.setRow g (rl (k+m)).toArray):=by
 obtain ⟨i,hi,hz,hsz,hby⟩:=info_parts u8_infoK
 have hl:(rl k).toArray.toList=rl k:=rfl
 have hr:=run_copy_row (P:=Tryz.prog) w 22 22 ty 5 g k dl dc ⟨g2,0,none⟩ m c2 (rl k).toArray 5 (List.replicate m (.int .u8 102)) bs_underK (by rw [hi];simpa using hsz) hg (by rw [List.length_replicate];exact (Nat.min_eq_left hm).symm) (fun j v hv=>by
  rw [List.getElem?_replicate] at hv
  split at hv
  ·rename_i hj
   cases hv
   have:=hsrc j hj
   rw [add_o,Nat.zero_add]
   exact this
  cases hv) (by rw [List.length_replicate,List.size_toArray,rl_len (by omega)];omega) (fun v hv=>by rw [(List.mem_replicate.1 hv).2];rfl)
 rw [List.length_replicate,hl,rl_step hk] at hr
 exact hr
theorem RowR.setRow {w:World} {g k m:Nat} (h:RowR w g k):RowR (w.setRow g (rl m).toArray) g m:=setRow_heap w g _ _ _ _ h
theorem RowR.cell {w:World} {g k:Nat} (h:RowR w g k) (j:Nat) (hj:j<k):w.cell? ⟨g,j,none⟩=some (.int .u8 102):=by
 rw [Blk.cell h j]
 simpa using rl_get hj
end
theorem bmul_c (w:World):Calls Tryz.prog 345 #[.int .u64 1,.int .u64 32] w fun e w'=>e=.returned (.tuple #[.int .u64 0,.int .u64 32])∧w=w':=by
 have h:=mul64_c 1 32 (by decide) (by decide) w
 replace h:=Lib.hid h
 go_enter Tryz.func345,Tryz.ntmps345
 go_wp2_with fail
 refine h.out.mono ?_
 rintro e w1 ⟨rfl,rfl⟩
 go_wp2
 go_returns
 exact ⟨rfl,rfl⟩
set_option maxRecDepth 20000 in
set_option maxHeartbeats 8000000 in
theorem repeat_c (g c:Nat) (w:World) (hg:g<w.heap.size) (hc:w.cell? ⟨g,0,none⟩=some (.int .u8 102)) :
  Calls Tryz.prog 305 #[.slice (some ⟨g,0,none⟩) 1 c,.int .i64 32] w fun e w'=>∃ g',w.heap.size≤g'∧e=.returned (.slice (some ⟨g',0,none⟩) 32 32)∧RowR w' g' 32∧Below w.heap.size w w':=by
 have hmk:∀ w,(Instr.makeSlice 22 (.int .i64 32) (.int .i64 32)).run Tryz.prog w=.ok (.slice (some ⟨w.heap.size,0,none⟩) 32 32) (w.alloc (.cells (List.replicate 32 (.int .u8 0)).toArray 5)):=fun _=>by kernel_rfl
 go_enter Tryz.func305,Tryz.ntmps305
 go_wp2_with fail
 refine (bmul_c _).mono ?_
 rintro e w1 ⟨rfl,rfl⟩
 go_wp2_with (first | (refine wpList_cpR 0 1 (by decide) rfl rfl rfl rfl (Blk.new _ _ _) (by decide) (fun j hj=>by obtain rfl:j=0:=(by omega);exact ((Below.refl _ _).alloc (Nat.le_refl _) _:Below w.heap.size w _).cell (p:=⟨g,0,none⟩) hg |>.trans hc) ?_;intro w2 hR hgr))
 have hb2:Below w.heap.size w w2:=((Below.refl _ _).alloc (Nat.le_refl _) _).grown hgr (by rw [World.size_alloc];omega) (fun k hk=>by injection hk with hk;omega)
 clear hgr hmk hc hg
 obtain ⟨G,hG⟩:∃ G,G=w.heap.size:=⟨_,rfl⟩
 rw [← hG] at hR ⊢
 have lo:w.heap.size≤G:=by omega
 clear hG
 refine wp_loop_rounds 6 ?_
 rw [rounds_succ]
 have hcp:=run_cpR w2.drew 3 1 1 (by decide) (g:=G) (g2:=G) (dl:=31) (dc:=31) (c2:=32) hR (by decide) (fun j hj=>RowR.cell (hR:RowR w2.drew G 1) j hj)
 go_wp2
 go_region
 obtain ⟨w3,hw⟩:∃ w',w'=w2.drew.setRow G (rl 2).toArray:=⟨_,rfl⟩
 rw [← hw]
 have hR3:RowR w3 G 2:=by rw [hw];exact RowR.setRow (hR:RowR w2.drew G _)
 have hb3:Below w.heap.size w w3:=by rw [hw];exact Below.grown (hb2.drew) (grown_setRow _ _ _) hb2.size (fun k hk=>by injection hk with hk;omega)
 clear hw hcp hb2 hR
 have hR:=hR3
 clear hR3
 go_wp2
 rw [rounds_succ]
 have hcp:=run_cpR w3.drew 3 2 2 (by decide) (g:=G) (g2:=G) (dl:=30) (dc:=30) (c2:=32) hR (by decide) (fun j hj=>RowR.cell (hR:RowR w3.drew G 2) j hj)
 go_wp2
 go_region
 obtain ⟨w4,hw⟩:∃ w',w'=w3.drew.setRow G (rl 4).toArray:=⟨_,rfl⟩
 rw [← hw]
 have hR4:RowR w4 G 4:=by rw [hw];exact RowR.setRow (hR:RowR w3.drew G _)
 have hb4:Below w.heap.size w w4:=by rw [hw];exact Below.grown (hb3.drew) (grown_setRow _ _ _) hb3.size (fun k hk=>by injection hk with hk;omega)
 clear hw hcp hb3 hR
 have hR:=hR4
 clear hR4
 go_wp2
 rw [rounds_succ]
 have hcp:=run_cpR w4.drew 3 4 4 (by decide) (g:=G) (g2:=G) (dl:=28) (dc:=28) (c2:=32) hR (by decide) (fun j hj=>RowR.cell (hR:RowR w4.drew G 4) j hj)
 go_wp2
 go_region
 obtain ⟨w5,hw⟩:∃ w',w'=w4.drew.setRow G (rl 8).toArray:=⟨_,rfl⟩
 rw [← hw]
 have hR5:RowR w5 G 8:=by rw [hw];exact RowR.setRow (hR:RowR w4.drew G _)
 have hb5:Below w.heap.size w w5:=by rw [hw];exact Below.grown (hb4.drew) (grown_setRow _ _ _) hb4.size (fun k hk=>by injection hk with hk;omega)
 clear hw hcp hb4 hR
 have hR:=hR5
 clear hR5
 go_wp2
 rw [rounds_succ]
 have hcp:=run_cpR w5.drew 3 8 8 (by decide) (g:=G) (g2:=G) (dl:=24) (dc:=24) (c2:=32) hR (by decide) (fun j hj=>RowR.cell (hR:RowR w5.drew G 8) j hj)
 go_wp2
 go_region
 obtain ⟨w6,hw⟩:∃ w',w'=w5.drew.setRow G (rl 16).toArray:=⟨_,rfl⟩
 rw [← hw]
 have hR6:RowR w6 G 16:=by rw [hw];exact RowR.setRow (hR:RowR w5.drew G _)
 have hb6:Below w.heap.size w w6:=by rw [hw];exact Below.grown (hb5.drew) (grown_setRow _ _ _) hb5.size (fun k hk=>by injection hk with hk;omega)
 clear hw hcp hb5 hR
 have hR:=hR6
 clear hR6
 go_wp2
 rw [rounds_succ]
 have hcp:=run_cpR w6.drew 3 16 16 (by decide) (g:=G) (g2:=G) (dl:=16) (dc:=16) (c2:=32) hR (by decide) (fun j hj=>RowR.cell (hR:RowR w6.drew G 16) j hj)
 go_wp2
 go_region
 obtain ⟨w7,hw⟩:∃ w',w'=w6.drew.setRow G (rl 32).toArray:=⟨_,rfl⟩
 rw [← hw]
 have hR7:RowR w7 G 32:=by rw [hw];exact RowR.setRow (hR:RowR w6.drew G _)
 have hb7:Below w.heap.size w w7:=by rw [hw];exact Below.grown (hb6.drew) (grown_setRow _ _ _) hb6.size (fun k hk=>by injection hk with hk;omega)
 clear hw hcp hb6 hR
 have hR:=hR7
 clear hR7
 go_wp2
 rw [rounds_succ]
 go_wp2
 go_returns
 exact ⟨G,lo,rfl,hR,hb7⟩
set_option maxRecDepth 20000 in
set_option maxHeartbeats 8000000 in
theorem getq_c (g o c:Nat) (b:Nat→Int) (hr:∀ j,0≤b j∧b j<256) (w:World) (hg:g<w.heap.size) (hc:∀ j,j<32→w.cell? ⟨g,o+j,none⟩=some (.int .u8 (b j))) (hCv:CvP w) (hok:Fe.okB b=true) :
  Calls Tryz.prog 163 #[.slice (some ⟨g,o,none⟩) 32 c] w fun e w'=>∃ X Y Z T,e=.returned (.tuple #[.agg (pcs X Y Z T),.bool true])∧PtE X Y Z T (Fe.zf (Fe.gX (Fe.nB b) (Fe.odB b))) (Fe.zf (Fe.nB b))∧Below w.heap.size w w':=by
 refine (getp_c g o c b hr w hg hc hCv).mono ?_
 rintro e w' ⟨⟨_,X,Y,Z,T,he,hX,hY,hZ,hT⟩ | ⟨hn,_⟩,hb⟩
 ·refine ⟨X,Y,Z,T,he,⟨_,_,_,_,hX,hY,hZ,hT,Fe.pa_got hY.lt ?_⟩,hb⟩
  unfold Fe.okB at hok
  exact (Bool.and_eq_true _ _ ▸ hok).2
 rw [hok] at hn;cases hn
set_option maxRecDepth 20000 in
set_option maxHeartbeats 8000000 in
theorem base_c (w:World) (hCv:CvP w):Calls Tryz.prog 214 #[] w (PostQ (Fe.zf Fe.bX) (Fe.zf Fe.bY) w):=by
 replace hCv:=Lib.hid hCv
 go_enter Tryz.func214,Tryz.ntmps214
 go_wp2_with fail
 refine calls_at (fun W0 hW=>?_)
 have k0:Blk W0 w.heap.size 204 (pcs ⟨0,0,0,0,0⟩ ⟨0,0,0,0,0⟩ ⟨0,0,0,0,0⟩ ⟨0,0,0,0,0⟩):=by rw [hW];exact (Blk.new _ _ _).alloc _
 have k1:Blk W0 (w.heap.size+1) 5 #[.int .u8 102]:=by rw [hW];exact blk_at (by simp) (Blk.new _ _ _)
 have hb0:Below w.heap.size w W0:=by rw [hW];go_grown
 clear hW
 obtain ⟨G0,hG0⟩:∃ G0,G0=w.heap.size:=⟨_,rfl⟩
 rw [← hG0] at k0 ⊢
 have lo0:w.heap.size≤G0:=by omega
 rw [← hG0] at k1
 clear hG0
 refine (repeat_c (G0+1) 1 W0 k1.lt (k1.cell 0)).mono ?_
 rintro e w1 ⟨G,hG,rfl,hR,hb⟩
 have n0G:G0≠G:=by have:=k0.lt;omega
 have loG:w.heap.size≤G:=by have:=hb0.size;omega
 replace k0:=k0.below hb
 replace hb0:=hb0.trans (hb.mono hb0.size)
 clear hb k1 hG
 have q0:=hR.cell 0 (by decide)
 have f0:=Blk.frozen hR 0
 go_wp2_with fail
 refine calls_at (fun W1 hW=>?_)
 have hB:∀ j,j<32→W1.cell? ⟨G,0+j,none⟩=some (.int .u8 (Fe.bb j)):=fun j hj=>by
  rw [Nat.zero_add,hW]
  have hS:Blk _ G _ _:=Blk.set_ hR 0 (.int .u8 88)
  rw [hS.cell j]
  unfold Fe.bb
  rcases Nat.eq_zero_or_pos j with rfl | h
  ·rfl
  rw [if_neg (by omega)]
  have h0:¬ 0=j:=by omega
  rw [Array.getElem?_setIfInBounds,if_neg h0]
  simpa using rl_get hj
 have k0':Blk W1 G0 204 (pcs ⟨0,0,0,0,0⟩ ⟨0,0,0,0,0⟩ ⟨0,0,0,0,0⟩ ⟨0,0,0,0,0⟩):=by rw [hW];exact k0.far (p:=⟨G,0,none⟩) n0G _
 have hb1:Below w.heap.size w W1:=by rw [hW];exact hb0.setCell (by show w.heap.size≤G;exact loG) _
 have hGW:G<W1.heap.size:=by rw [hW];simpa [World.setCell] using Blk.lt hR
 clear hW hR q0 f0 k0 hb0
 refine (getq_c G 0 32 Fe.bb Fe.bb_r W1 hGW hB (hCv.out.below hb1 hCv.out.lt) Fe.okB_bb).mono ?_
 rintro e w2 ⟨X,Y,Z,T,rfl,hE,hb⟩
 rw [Fe.nB_bb,Fe.odB_bb,Fe.gX_bb] at hE
 replace hE:=Lib.hid hE
 replace k0':=k0'.below hb
 replace hb1:=hb1.trans (hb.mono hb1.size)
 clear hb hB hGW
 have hlt:=k0'.lt
 go_wp2_with (first | (refine stPt rfl rfl rfl rfl k0' rfl rfl (by kernel_rfl) ?_;intro w4 k4 hgr2 hsz2) | (refine stPt rfl rfl rfl rfl (Blk.new _ _ _) rfl rfl (by kernel_rfl) ?_;intro w3 k3 hgr hsz;replace k0':=Blk.grown (k0'.alloc _) hgr (fun h=>by injection h with h;omega);replace hb1:=Below.grown (hb1.alloc hb1.size _) hgr (by rw [World.size_alloc];have:=hb1.size;omega) (fun k hk=>by injection hk with hk;have:=hb1.size;omega);clear hgr hsz) | (refine ldPt rfl rfl rfl k3 rfl ?_))
 exact retPt rfl rfl k4 rfl rfl ⟨X,Y,Z,T,rfl,hE.out,hb1.grown hgr2 hb1.size (fun k hk=>by injection hk with hk;omega)⟩
end Go.Proofs.YtnopjabcdloepaaGreatDoor
namespace Go.Proofs.YtnopjabcdloepaaGreatDoor
open Go.RowKit
def p2 (a b:Fin Fe.P) (i:Nat):Fin Fe.P:=if i=0 then a else b
def p3 (a b c:Fin Fe.P) (i:Nat):Fin Fe.P:=if i=0 then a else if i=1 then b else c
section
variable {ops:Array Oper} {rest:List Oper} {o:Oper} {a:Act} {w:World} {Q:Exit→Act→World→Prop}
end
theorem sta_pq (x y:Fin Fe.P):Sta (fun v _=>PtIs v x y):=fun _ _ _ h _=>h
end Go.Proofs.YtnopjabcdloepaaGreatDoor
namespace Go.Proofs.YtnopjabcdloepaaGreatDoor
open Go.RowKit
theorem int_under:Tryz.prog.underlying 3=some (.int .i64):=by kernel_rfl
theorem run_append_room_zeros (w:World) (ty:TypeId) {g n c k:Nat} {cur:Array Value} (hg:w.heap[g]?=some (.cells cur 5 (0,0))) (hs:cur.size=c) (h0:0<k) (hk:k≤1000000) (hroom:n+k≤c) :
  (Builtin.append_ #[22,3] ty #[.slice (some ⟨g,0,none⟩) n c,.int .i64 k]).run Tryz.prog w=.ok (.slice (some ⟨g,0,none⟩) (n+k) c) (w.setRow g (cur.toList.take n++cB k (fun _=>0)++cur.toList.drop (n+k)).toArray):=by
 obtain ⟨i,hi,hz,hsz,hby⟩:=info_parts u8_infoK
 have hw:IntKind.i64.wrap (k:Int)=k:=by rw [IntKind.wrap_i64];omega
 have hneg:¬ ((k:Int)<0):=by omega
 have h48i:¬ (281474976710656<(k:Int)*(i.bytes:Int)):=by rw [hby];omega
 have hz0:Builtin.zeroCells (Value.int .u8 0).cells k=(cB k (fun _=>0)).toArray:=by
  simp [Builtin.zeroCells,Value.cells,cB]
  apply Array.ext'
  simp [Nat.mod_one]
 have hst:=run_storeCells_at Tryz.prog g n 5 (cB k (fun _=>0)) 0 cur w hg (by rw [cB_len];omega) cB_one
 rw [cB_len] at hst
 have hkz:k≠0:=by omega
 have hroom2:n+k≤c:=hroom
 simp [Builtin.append_,run_underlying bs_underK,run_underlying int_under,sizeOf,typeInfo,zeroValue,hi,hz,hsz,asInt,asIntOf,hw,hneg,h48i,hkz,hroom2,Addr.add_lit,hz0]
 rw [hst]
 simp
def fz (f:Nat→Int) (n j:Nat):Int:=if j<n then f j else 0
theorem cB_fz (f:Nat→Int) (n k:Nat):cB n f++cB k (fun _=>0)=cB (n+k) (fz f n):=by
 have h1:cB n f=cB n (fz f n):=cB_congr fun i hi=>by unfold fz;rw [if_pos hi]
 rw [h1]
 unfold cB
 rw [List.range_add,List.map_append,List.map_map]
 congr 1
 refine List.map_congr_left fun j _=>?_
 show Value.int .u8 0=.int .u8 (fz f n (n+j))
 unfold fz
 rw [if_neg (by omega)]
theorem run_appZ (w:World) (ty:TypeId) {g n c:Nat} {f:Nat→Int} (hR:RowB w g n c f) (k:Nat) (h0:0<k) (hk:k≤1000) (hn:n≤1000000) :
  ∃ g' c' w',(Builtin.append_ #[22,3] ty #[.slice (some ⟨g,0,none⟩) n c,.int .i64 k]).run Tryz.prog w=.ok (.slice (some ⟨g',0,none⟩) (n+k) c') w'∧RowB w' g' (n+k) c' (fz f n)∧w.grownBy w' (some g)∧(g'=g∨g'=w.heap.size):=by
 obtain ⟨i,hi,hz,hs,hby⟩:=info_parts u8_infoK
 obtain ⟨cur,h1,h2,h3,h4,h5⟩:=hR
 by_cases hroom:n+k≤c
 ·refine ⟨g,c,_,run_append_room_zeros w ty h1 h4 h0 (by omega) hroom,⟨_,setRow_heap w g cur _ _ _ h1,hroom,h3,?_,?_⟩,⟨rfl,rfl,rfl,by simp [World.setRow],fun k _ hk=>setRow_other w g k _ (fun e=>hk (by rw [e]))⟩,.inl rfl⟩
  ·simp [cB_len,h4];omega
  rw [h5,cB_fz]
  rw [List.take_left' (by rw [cB_len])]
 have hold:(Builtin.firstCells i.size n (.slice (some ⟨g,0,none⟩) n c)).run Tryz.prog w.drew=.ok (cB n f).toArray w.drew:=by
  have hl:=run_loadCells_list (P:=Tryz.prog) w.drew ⟨g,0,none⟩ (cB n f) (fun j u hu=>by
   have hj:j<n:=by
    rcases Nat.lt_or_ge j n with hj | hj
    ·exact hj
    rw [List.getElem?_eq_none (by rw [cB_len];exact hj)] at hu
    cases hu
   rw [add_o,Nat.zero_add]
   rw [cB_get n f j hj] at hu
   rw [← hu]
   exact RowB.cell (w:=w) ⟨cur,h1,h2,h3,h4,h5⟩ j hj)
  rw [cB_len] at hl
  simpa [Builtin.firstCells,hs] using hl
 have hr:=Lib.run_append_grow_zeros (P:=Tryz.prog) w 22 3 ty 5 i (.int .u8 0) .i64 .i64 bs_underK int_under hi hz (some ⟨g,0,none⟩) n c (cB n f) hold k h0 (by omega) (by omega) (by omega) (by rw [hby];omega) (growslice_fits (by omega) (by rw [hby];omega))
 have hge:=grownCap_ge w (n+k) c 5
 have hz0:Builtin.zeroCells (Value.int .u8 0).cells k=(cB k (fun _=>0)).toArray:=by
  simp [Builtin.zeroCells,Value.cells,cB]
  apply Array.ext'
  simp [Nat.mod_one]
 refine ⟨w.heap.size,_,_,hr,⟨_,heap_alloc_new w.drew _,hge,grownCap_le_maxLen w _ _ _ (by unfold maxLen;omega),?_,?_⟩,⟨rfl,rfl,rfl,by simp,fun k hk h=>(World.grownBy_alloc w.drew _ (some g)).block k hk h⟩,.inr rfl⟩
 ·simp only [Array.size_append,List.size_toArray,size_zeroCells,cB_len]
  simp [Value.cells]
  omega
 rw [hz0]
 simp only [Array.toList_append]
 rw [cB_fz,List.take_left' (by rw [cB_len])]
section
variable {ops:Array Oper} {rest:List Oper} {o:Oper} {a:Act} {w:World} {Q:Exit→Act→World→Prop}
theorem wpList_appZ (hgd:o.guard=none) {s x:Operand} (ho:o.op=.call { callee:=.builtin .append,args:=#[s,x],argTypes:=#[22,3] }) {g n c k:Nat} {f:Nat→Int} (hs:a.eval s=.slice (some ⟨g,0,none⟩) n c) (hx:a.eval x=.int .i64 k) (hR:RowB w g n c f) (h0:0<k) (hk:k≤1000) (hn:n≤1000000)
  (h:∀ g' c' w',RowB w' g' (n+k) c' (fz f n)→w.grownBy w' (some g)→(g'=g∨g'=w.heap.size)→wpList Tryz.prog ops Q rest (a.put o.dst (.slice (some ⟨g',0,none⟩) (n+k) c')) w'):wpList Tryz.prog ops Q (o::rest) a w :=
 wpList_plain hgd fun _ hK=>by
  obtain ⟨g',c',w',hr,h2,h3,h4⟩:=run_appZ w o.type hR k h0 hk hn
  unfold Oper.wp execOp
  simp only [ho,resolve,invoke,builtin,Sem.run_bind,Sem.run_pure,Result.andThen_ok,List.map_toArray,List.map_cons,List.map_nil,hs,hx,hr]
  exact hK _ _ (h g' c' w' h2 h3 h4)
end
def PostBs (n:Nat) (f:Nat→Int) (w:World) (e:Ending) (w':World):Prop:=∃ g c,e=.returned (.slice (some ⟨g,0,none⟩) n c)∧w.heap.size≤g∧RowB w' g n c f∧Below w.heap.size w w'
def BAt (w:World) (p:Option Addr) (n:Nat) (b:Nat→Int):Prop:=0<n→∃ g o,p=some ⟨g,o,none⟩∧g<w.heap.size∧∀ j,j<n→w.cell? ⟨g,o+j,none⟩=some (.int .u8 (b j))
theorem BAt.below {w w':World} {p:Option Addr} {n:Nat} {b:Nat→Int} (h:BAt w p n b) (hb:Below w.heap.size w w'):BAt w' p n b:=fun hn=>by
 obtain ⟨g,o,e,hg,hc⟩:=h hn
 exact ⟨g,o,e,Nat.lt_of_lt_of_le hg hb.size,fun j hj=>(hb.cell (p:=⟨g,o+j,none⟩) hg).trans (hc j hj)⟩
end Go.Proofs.YtnopjabcdloepaaGreatDoor
namespace Fe
def b1 (j:Nat):Int:=if j<1 then 1 else 0
def b2 (j:Nat):Int:=if j=31 then 128 else b1 j
end Fe
namespace Go.Proofs.YtnopjabcdloepaaGreatDoor
open Go.RowKit
theorem getn_c (g o c:Nat) (b:Nat→Int) (hr:∀ j,0≤b j∧b j<256) (w:World) (hg:g<w.heap.size) (hc:∀ j,j<32→w.cell? ⟨g,o+j,none⟩=some (.int .u8 (b j))) (hCv:CvP w) (hok:Fe.okB b=false) :
  Calls Tryz.prog 163 #[.slice (some ⟨g,o,none⟩) 32 c] w fun e w'=>e=.returned (.tuple #[.agg (pcs ⟨0,0,0,0,0⟩ ⟨0,0,0,0,0⟩ ⟨0,0,0,0,0⟩ ⟨0,0,0,0,0⟩),.bool false])∧Below w.heap.size w w':=by
 refine (getp_c g o c b hr w hg hc hCv).mono ?_
 rintro e w' ⟨⟨h,_⟩ | ⟨_,he⟩,hb⟩
 ·rw [hok] at h;cases h
 exact ⟨he,hb⟩
theorem ldPtG {ops:Array Oper} {rest:List Oper} {o:Oper} {a:Act} {w:World} {Q:Exit→Act→World→Prop} (hw:Region.wanted o (yielded ops a.tmps)=true) {x:Operand} (ho:o.op=.load 204 x) {g:Nat} {ty:TypeId} {X Y Z T:Fe.E} (hx:a.eval x=.pointer (some ⟨g,0,none⟩)) (hg:Blk w g ty (pcs X Y Z T)) (h:wpList Tryz.prog ops Q rest (a.put o.dst (.agg (pcs X Y Z T))) w):wpList Tryz.prog ops Q (o::rest) a w:=by
 obtain ⟨d,hd,hs2⟩:=pt_under
 refine wpList_step fun K hK=>?_
 simp only [hw,if_true]
 exact wp_load_row 204 x ho g hx ty (pcs X Y Z T) (0,0) d hg hd (by revert hs2;cases d <;> exact fun h=>h) pt_size (hK _ _ h)
def PqP (x y:Fin Fe.P):Value→World→Prop:=fun v _=>∃ X Y Z T,v=.agg (pcs X Y Z T)∧PtE X Y Z T x y
end Go.Proofs.YtnopjabcdloepaaGreatDoor
