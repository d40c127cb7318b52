import Derived.Test.YtnopjabcdloepaaGreatDoorCb
import Derived.Test.YtnopjabcdloepaaGreatDoorYi
import Derived.Deep.AppendSrc
namespace Sh
open Go Go.Proofs.YtnopjabcdloepaaGreatDoor
def hsI (T:Nat→Int):Nat→(Nat→Int)
 | 0=>ivI
 | k+1=>blkI (hsI T k) (fun j=>T (128*k+j))
end Sh
namespace Go.Proofs.YtnopjabcdloepaaGreatDoor
open Go.RowKit
structure Ext (S:List Nat) (w:World) (S':List Nat) (w':World):Prop where
 os:w'.os=w.os
 tape:w'.tape=w.tape
 output:w'.output=w.output
 size:w.heap.size≤w'.heap.size
 block:∀ k,k<w.heap.size→k ∉ S→w'.heap[k]?=w.heap[k]?
 sub:∀ k,k∈S'→k∈S∨w.heap.size≤k
theorem Ext.refl (S:List Nat) (w:World):Ext S w S w:=⟨rfl,rfl,rfl,Nat.le_refl _,fun _ _ _=>rfl,fun _ h=>.inl h⟩
theorem Ext.trans {S S' S'':List Nat} {w w' w'':World} (h:Ext S w S' w') (k:Ext S' w' S'' w''):Ext S w S'' w'' :=
 ⟨k.os.trans h.os,k.tape.trans h.tape,k.output.trans h.output,Nat.le_trans h.size k.size,fun j hj hS=>(k.block j (Nat.lt_of_lt_of_le hj h.size) (fun hs=>(h.sub j hs).elim hS (fun h2=>by omega))).trans (h.block j hj hS),
  fun j hj=>(k.sub j hj).elim (fun h2=>h.sub j h2) (fun h2=>.inr (Nat.le_trans h.size h2))⟩
theorem Ext.grown {S S':List Nat} {w w':World} {r:Option Nat} (hg:w.grownBy w' r) (hr:∀ g,r=some g→g∈S) (hS:∀ k,k∈S'→k∈S∨w.heap.size≤k):Ext S w S' w' :=
 ⟨hg.os,hg.tape,hg.output,hg.size,fun k hk hn=>hg.block k hk (fun e=>hn (hr k e.symm)),hS⟩
theorem Ext.below {S:List Nat} {w w':World} (hb:Below w.heap.size w w'):Ext S w S w':=⟨hb.os,hb.tape,hb.output,hb.size,fun k hk _=>hb.block k hk,fun _ h=>.inl h⟩
theorem Ext.at {S S':List Nat} {w w':World} (h:Ext S w S' w') {g:Nat} (hg:g<w.heap.size) (hS:g ∉ S):w'.heap[g]?=w.heap[g]?∧g ∉ S'∧g<w'.heap.size :=
 ⟨h.block g hg hS,fun hs=>(h.sub g hs).elim hS (fun h2=>by omega),Nat.lt_of_lt_of_le hg h.size⟩
theorem Ext.old {S S':List Nat} {w w':World} {B:Nat} (h:Ext S w S' w') (hB:B≤w.heap.size) (hS:∀ k,k∈S→B≤k):Below B w w':=⟨h.os,h.tape,h.output,h.size,fun k hk=>h.block k (by omega) (fun hs=>by have:=hS k hs;omega)⟩
def BX (S:List Nat) (w:World) (p:Option Addr) (n:Nat) (b:Nat→Int):Prop:=0<n→∃ g o,p=some ⟨g,o,none⟩∧g<w.heap.size∧g ∉ S∧∀ j,j<n→w.cell? ⟨g,o+j,none⟩=some (.int .u8 (b j))
theorem BX.bat {S:List Nat} {w:World} {p:Option Addr} {n:Nat} {b:Nat→Int} (h:BX S w p n b):BAt w p n b:=fun h0=>by
 obtain ⟨g,o,e,hg,_,hc⟩:=h h0
 exact ⟨g,o,e,hg,hc⟩
theorem BX.ext {S S':List Nat} {w w':World} {p:Option Addr} {n:Nat} {b:Nat→Int} (h:BX S w p n b) (hE:Ext S w S' w'):BX S' w' p n b:=fun h0=>by
 obtain ⟨g,o,e,hg,hS,hc⟩:=h h0
 obtain ⟨h1,h2,h3⟩:=hE.at hg hS
 exact ⟨g,o,e,h3,h2,fun j hj=>(World.cell?_of_block (w:=w) (a:=⟨g,o+j,none⟩) h1).trans (hc j hj)⟩
theorem cB_join (T:Nat→Int) (q n m:Nat):cB n (fun j=>T (q+j))++cB m (fun j=>T (q+n+j))=cB (n+m) (fun j=>T (q+j)):=by
 apply List.ext_getElem?
 intro i
 by_cases h:i<n
 ·rw [List.getElem?_append_left (by rw [cB_len];exact h),cB_get _ _ _ h,cB_get _ _ _ (by omega)]
 rw [List.getElem?_append_right (by rw [cB_len];omega),cB_len]
 by_cases h2:i<n+m
 ·rw [cB_get _ _ _ (by omega),cB_get _ _ _ h2,show q+n+(i-n)=q+i by omega]
 rw [List.getElem?_eq_none (by rw [cB_len];omega),List.getElem?_eq_none (by rw [cB_len];omega)]
theorem run_appOB (w:World) (ty:TypeId) (base:Nat) (v:Value) (n:Nat) (T:Nat→Int) (q:Nat) (hown:w.ownsRow base 5 1 v n (cB n (fun j=>T (q+j)))) (p:Option Addr) (m c:Nat) (hX:BAt w p m (fun j=>T (q+n+j)))
  (hb:n+m≤1000000000) (hbase:base≤w.heap.size) :
  ∃ v' w',(Builtin.append_ #[22,22] ty #[v,.slice p m c]).run Tryz.prog w=.ok v' w'∧w'.ownsRow base 5 1 v' (n+m) (cB (n+m) (fun j=>T (q+j)))∧w.grownBy w' v.ownBlock∧(v'.ownBlock=v.ownBlock∨v'.ownBlock=some w.heap.size):=by
 obtain ⟨i,hi,hz,hs,hby⟩:=info3 u8_info'
 have hone:∀ ad:Addr,(∀ j u,(cB m (fun j=>T (q+n+j)))[j]?=some u→w.cell? (ad.add j)=some u)→p=some ad→∃ v' w',(Builtin.append_ #[22,22] ty #[v,.slice p m c]).run Tryz.prog w=.ok v' w'∧w'.ownsRow base 5 1 v' (n+m) (cB (n+m) (fun j=>T (q+j)))∧w.grownBy w' v.ownBlock∧(v'.ownBlock=v.ownBlock∨v'.ownBlock=some w.heap.size):=fun ad h hp=>by
  subst hp
  obtain ⟨v',w',h1,h2,h3,h4,h5⟩:=run_append_own_at (P:=Tryz.prog) w base 22 ty 5 i _ 1 1 by_under' hi hz hs hby rfl (by decide) v n _ hown ad m c _ (by rw [cB_len];omega) h cB_one (by unfold maxLen;omega) (by omega) hbase
  rw [cB_join] at h2
  exact ⟨v',w',h1,h2,h3,h5⟩
 by_cases h0:m=0
 ·subst h0
  cases p with
  | some ad=>exact hone ad (fun j u hu=>by simp [cB] at hu) rfl
  | none =>
   rcases hown with ⟨hl,⟨rfl,rfl⟩ | ⟨g,cap,cur,rfl,h1,h2,h3,h4,h5,h6⟩⟩
   ·refine ⟨.slice none 0 0,w,?_,⟨by simp [cB],.inl ⟨rfl,rfl⟩⟩,⟨rfl,rfl,rfl,Nat.le_refl _,fun _ _ _=>rfl⟩,.inl rfl⟩
    simp [Builtin.append_,run_underlying by_under',sizeOf,typeInfo,hi,Builtin.lenOf,Builtin.firstCells]
   have hr:=run_append_room_src (P:=Tryz.prog) w 22 22 ty 5 i by_under' hi g 0 n cap (.slice none 0 c) 0 [] (Src.ofNil w by_under' c) (by omega) (fun j hj=>absurd hj (by simp)) (fun j hj=>absurd hj (by simp))
   simp only [Nat.add_zero,World.setCells] at hr
   exact ⟨_,w,hr,⟨hl,.inr ⟨g,cap,cur,rfl,h1,h2,h3,h4,h5,h6⟩⟩,⟨rfl,rfl,rfl,Nat.le_refl _,fun _ _ _=>rfl⟩,.inl rfl⟩
 obtain ⟨g,o,rfl,hg,hc⟩:=hX (by omega)
 exact hone _ (fun j u hu=>by
  have hj:j<m:=by have:=(List.getElem?_eq_some_iff.1 hu).1;rwa [cB_len] at this
  rw [cB_get _ _ _ hj] at hu
  rw [add_o,hc j hj,hu]) rfl
section
variable {ops:Array Oper} {rest:List Oper} {o:Oper} {a:Act} {w:World} {Q:Exit→Act→World→Prop}
theorem wpList_appOB (hgd:o.guard=none) {s x:Operand} (ho:o.op=.call { callee:=.builtin .append,args:=#[s,x],argTypes:=#[22,22] }) {v:Value} (hs:a.eval s=v) {base n:Nat} {T:Nat→Int} {q:Nat} (hown:w.ownsRow base 5 1 v n (cB n (fun j=>T (q+j))))
  {p:Option Addr} {m c:Nat} (hx:a.eval x=.slice p m c) (hX:BAt w p m (fun j=>T (q+n+j))) (hb:n+m≤1000000000) (hbase:base≤w.heap.size)
  (h:∀ v' w',w'.ownsRow base 5 1 v' (n+m) (cB (n+m) (fun j=>T (q+j)))→w.grownBy w' v.ownBlock→(v'.ownBlock=v.ownBlock∨v'.ownBlock=some w.heap.size)→wpList Tryz.prog ops Q rest (a.put o.dst v') w'):wpList Tryz.prog ops Q (o::rest) a w :=
 wpList_plain hgd fun _ hK=>by
  obtain ⟨v',w',hr,h2,h3,h4⟩:=run_appOB w o.type base v n T q hown p m c hX hb hbase
  unfold Oper.wp execOp
  simp only [ho,resolve,invoke,builtin,Sem.run_bind,Sem.run_pure,Result.andThen_ok,List.map_toArray,List.map_cons,List.map_nil,hs,hx,hr]
  exact hK _ _ (h v' w' h2 h3 h4)
end
theorem own_slB {w:World} {B n:Nat} {v:Value} {xs:List Value} (h:w.ownsRow B 5 1 v n xs):∃ p c,v=.slice p n c:=by
 rcases h.2 with ⟨rfl,rfl⟩ | ⟨g,cap,cur,rfl,_⟩
 ·exact ⟨none,0,rfl⟩
 exact ⟨_,_,rfl⟩
section
variable {ops:Array Oper} {rest:List Oper} {o:Oper} {a:Act} {w:World} {Q:Exit→Act→World→Prop}
theorem bdH (hgd:o.guard=none) {p:Operand} (ho:o.op=.build 380 #[(0,p),(3,.const (.bool true))]) {V:Nat→Int} (hp:a.eval p=.agg (wA 8 V)) (h:wpList Tryz.prog ops Q rest (a.put o.dst (.agg (hC V (.slice none 0 0) 0))) w):wpList Tryz.prog ops Q (o::rest) a w:=by
 have e:Tryz.prog.built 380 ((#[(0,p),(3,.const (.bool true))]:Array (Nat × Operand)).map fun (i,x)=>(i,a.eval x)).toList=some (hC V (.slice none 0 0) 0):=by
  simp only [List.map_toArray,List.map_cons,List.map_nil,hp]
  kernel_rfl
 refine wpList_build hgd 380 _ ho (by rw [e];rfl) ?_
 rw [e]
 exact h
end
set_option maxRecDepth 20000 in
set_option maxHeartbeats 2000000 in
theorem hnew_c (w:World) (hS:ShP w):Calls Tryz.prog 243 #[] w fun e w'=>e=.returned (.pointer (some ⟨w.heap.size,0,none⟩))∧w'=w.alloc (.cells (hC Sh.ivI (.slice none 0 0) 0) 380):=by
 have hiv:=hS.iv
 replace hiv:=Lib.hid hiv
 clear hS
 go_enter Tryz.func243,Tryz.ntmps243
 go_wp2_with (first | (refine ld8 rfl rfl rfl hiv.out ?_) | (refine bdH rfl rfl rfl ?_))
 go_returns
 exact ⟨rfl,rfl⟩
theorem hC_made (V:Nat→Int) (sv:Value) (N:Int):(hC V sv N)[10]?=some (.bool true)∧(hC V sv N)[8]?=some sv∧(hC V sv N)[9]?=some (.int .u64 N):=by
 unfold hC
 refine ⟨?_,?_,?_⟩ <;> (rw [Array.getElem?_append_right (by rw [wA_size];decide),wA_size];rfl)
set_option maxRecDepth 20000 in
set_option maxHeartbeats 2000000 in
theorem there_c (gH:Nat) (V:Nat→Int) (sv:Value) (N:Int) (w:World) (hH:Blk w gH 380 (hC V sv N)):Calls Tryz.prog 315 #[.pointer (some ⟨gH,0,none⟩)] w fun e w'=>e=.returned (.bool true)∧w=w':=by
 have c1:=hH.cell 10
 rw [(hC_made V sv N).1] at c1
 go_enter Tryz.func315,Tryz.ntmps315
 go_wp2
 go_returns
 exact ⟨rfl,rfl⟩
end Go.Proofs.YtnopjabcdloepaaGreatDoor
