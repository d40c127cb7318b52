import Derived.Test.YtnopjabcdloepaaGreatDoorRows
import Derived.Test.YtnopjabcdloepaaGreatDoorYa
import Derived.WalkKit
import Derived.WalkSpells
import Derived.WalkLawsBesides
import Derived.RegionTactic
import Derived.ChangeAlike
import Derived.BigRegion
import Derived.Handy
import Derived.Lib.Hide
import Derived.LoopTactic
import Derived.Deep.QuietTactic
import Derived.Deep.LoopGhost
import Derived.BigQuiet
import Derived.IntWalk
import Derived.Laws.AppendOwn
import Derived.OwnWalk
import Derived.Deep.AppendSrc
import Derived.Deep.DeepFit
import Derived.RangeFuncNested
import Derived.RangeFuncBound
import Derived.RangeFuncCalls
import Derived.RangeFuncLeaves
import Derived.Shelf.Abstract
import Derived.Shelf.RegionOpen
import Derived.OwnWalkIn
import Derived.TacticsInMore
import Derived.LoopNIn
import Derived.LoopIn
import Derived.RangeFuncBox
import Derived.RangeFuncWrites
import Derived.Maps.AppendAt
namespace Go.Proofs.YtnopjabcdloepaaGreatDoor
open Go.RowKit
def cB (n:Nat) (f:Nat→Int):List Value:=(List.range n).map fun i=>.int .u8 (f i)
theorem cB_len (n:Nat) (f:Nat→Int):(cB n f).length=n:=by simp [cB]
theorem cB_get (n:Nat) (f:Nat→Int) (i:Nat) (h:i<n):(cB n f)[i]?=some (.int .u8 (f i)):=by simp [cB,h]
theorem cB_congr {n:Nat} {f g:Nat→Int} (h:∀ i,i<n→f i=g i):cB n f=cB n g:=by
 unfold cB
 exact List.map_congr_left fun i hi=>by rw [h i (List.mem_range.1 hi)]
theorem cB_one {n:Nat} {f:Nat→Int}:∀ u∈cB n f,u.oneCell'=true:=fun u hu=>by
 unfold cB at hu
 obtain ⟨i,_,rfl⟩:=List.mem_map.1 hu
 rfl
def RowB (w:World) (g n c:Nat) (f:Nat→Int):Prop:=∃ cur:Array Value,w.heap[g]?=some (.cells cur 5 (0,0))∧n≤c∧c≤maxLen∧cur.size=c∧cur.toList.take n=cB n f
theorem RowB.lt {w:World} {g n c:Nat} {f:Nat→Int} (h:RowB w g n c f):g<w.heap.size:=by
 obtain ⟨cur,h1,_⟩:=h
 exact (Array.getElem?_eq_some_iff.1 h1).1
theorem RowB.below {w w':World} {g n c:Nat} {f:Nat→Int} (h:RowB w g n c f) (hb:Below w.heap.size w w'):RowB w' g n c f:=by
 have hl:=h.lt
 obtain ⟨cur,h1,h2⟩:=h
 exact ⟨cur,(hb.block g hl).trans h1,h2⟩
theorem RowB.grown {w w':World} {g n c:Nat} {f:Nat→Int} {row:Option Nat} (h:RowB w g n c f) (hg:w.grownBy w' row) (hne:some g≠row):RowB w' g n c f:=by
 have hl:=h.lt
 obtain ⟨cur,h1,h2⟩:=h
 exact ⟨cur,(hg.block g hl hne).trans h1,h2⟩
theorem RowB.far {w:World} {g n c:Nat} {f:Nat→Int} (h:RowB w g n c f) {p:Addr} (hp:g≠p.block) (u:Value):RowB (w.setCell p u) g n c f:=by
 obtain ⟨cur,h1,h2⟩:=h
 exact ⟨cur,(Below.heap_setCell w p u g hp).trans h1,h2⟩
theorem RowB.cell {w:World} {g n c:Nat} {f:Nat→Int} (h:RowB w g n c f) (i:Nat) (hi:i<n):w.cell? ⟨g,i,none⟩=some (.int .u8 (f i)):=by
 obtain ⟨cur,h1,h2,h3,h4,h5⟩:=h
 rw [cell_of_row w g i cur _ (0,0) h1,← Array.getElem?_toList]
 have:=congrArg (·[i]?) h5
 simp only [List.getElem?_take_of_lt hi,cB_get n f i hi] at this
 exact this
theorem RowB.frozen {w:World} {g n c:Nat} {f:Nat→Int} (h:RowB w g n c f) (i:Nat):w.frozen? ⟨g,i,none⟩=false:=by
 obtain ⟨cur,h1,_⟩:=h
 exact frozen_of_row w g i cur _ h1
theorem RowB.set_ {w:World} {g n c:Nat} {f:Nat→Int} (h:RowB w g n c f) (i:Nat) (hi:i<n) (x:Int):RowB (w.setCell ⟨g,i,none⟩ (.int .u8 x)) g n c (fun j=>if j=i then x else f j):=by
 obtain ⟨cur,h1,h2,h3,h4,h5⟩:=h
 refine ⟨cur.setIfInBounds i (.int .u8 x),?_,h2,h3,by simp [h4],?_⟩
 ·simp [World.setCell,Array.getElem?_modify,h1]
 apply List.ext_getElem?
 intro j
 have hj:=congrArg (·[j]?) h5
 rcases Nat.lt_or_ge j n with hjn | hjn
 ·simp only [List.getElem?_take_of_lt hjn,cB_get n _ j hjn] at hj ⊢
  rw [Array.toList_setIfInBounds,List.getElem?_set]
  by_cases e:i=j
  ·subst e
   have:i<cur.toList.length:=by simp [h4];omega
   rw [if_pos rfl,if_pos this,if_pos rfl]
  rw [if_neg e,hj,if_neg (fun h=>e h.symm)]
 rw [List.getElem?_eq_none (by simp;omega),List.getElem?_eq_none (by rw [cB_len];exact hjn)]
theorem RowB.congr {w:World} {g n c:Nat} {f f':Nat→Int} (h:RowB w g n c f) (he:∀ i,i<n→f i=f' i):RowB w g n c f':=by
 obtain ⟨cur,h1,h2,h3,h4,h5⟩:=h
 exact ⟨cur,h1,h2,h3,h4,by rw [h5,cB_congr he]⟩
end Go.Proofs.YtnopjabcdloepaaGreatDoor
namespace Go.Proofs.YtnopjabcdloepaaGreatDoor
open Go.RowKit
theorem u8_infoK:(Tryz.prog.info? 5).map (fun i=>(i.zero,i.size,i.bytes))=some (some (.int .u8 0),1,1):=by kernel_rfl
theorem bs_underK:Tryz.prog.underlying 22=some (.slice 5):=by kernel_rfl
theorem run_app (w:World) (ty:TypeId) {g n c:Nat} {f f2:Nat→Int} (hR:RowB w g n c f) (ad:Addr) (m c2:Nat) (hf:∀ i,i<n→f i=f2 i) (hnews:∀ j,j<m→w.cell? (ad.add j)=some (.int .u8 (f2 (n+j)))) (hb:n+m≤140737488355328) :
  ∃ g' c' w',(Builtin.append_ #[22,22] ty #[.slice (some ⟨g,0,none⟩) n c,.slice (some ad) m c2]).run Tryz.prog w=.ok (.slice (some ⟨g',0,none⟩) (n+m) c') w'∧RowB w' g' (n+m) c' f2∧w.grownBy w' (some g)∧((g'=g∧c'=c∧n+m≤c)∨(g'=w.heap.size∧c<n+m)):=by
 obtain ⟨i,hi,hz,hs,hby⟩:=info_parts u8_infoK
 obtain ⟨cur,h1,h2,h3,h4,h5⟩:=hR
 have hcat:cB n f++(List.range m).map (fun j=>Value.int .u8 (f2 (n+j)))=cB (n+m) f2:=by
  rw [cB_congr hf]
  unfold cB
  rw [List.range_add,List.map_append,List.map_map]
  rfl
 have hnl:((List.range m).map fun j=>Value.int .u8 (f2 (n+j))).length=m*i.size:=by rw [hs];simp
 have hnv:∀ j u,((List.range m).map fun j=>Value.int .u8 (f2 (n+j)))[j]?=some u→w.cell? (ad.add j)=some u:=fun j u hu=>by
  rcases Nat.lt_or_ge j m with hj | hj
  ·rw [hnews j hj]
   simpa [hj] using hu
  rw [List.getElem?_eq_none (by simpa using hj)] at hu
  cases hu
 have hone:∀ u∈(List.range m).map (fun j=>Value.int .u8 (f2 (n+j))),u.oneCell'=true:=fun u hu=>by
  obtain ⟨j,_,rfl⟩:=List.mem_map.1 hu
  rfl
 by_cases hroom:n+m≤c
 ·have hr:=run_append_room (P:=Tryz.prog) w 22 ty 5 i bs_underK hi g n c cur h1 ad m c2 _ hnl hnv hone hroom (by rw [hs,h4];simp;omega)
  refine ⟨g,c,_,hr,⟨_,setRow_heap w g cur _ _ _ h1,hroom,h3,?_,?_⟩,⟨rfl,rfl,rfl,by simp [World.setRow],fun k _ hk=>setRow_other w g k _ (fun e=>hk (by rw [e]))⟩,.inl ⟨rfl,rfl,hroom⟩⟩
  ·simp [hs,h4];omega
  simp only [hs,Nat.mul_one]
  rw [h5,hcat,List.take_left' (by rw [cB_len])]
 have hr:=run_append_grow (P:=Tryz.prog) w 22 ty 5 i (.int .u8 0) bs_underK hi hz ⟨g,0,none⟩ n c (cB n f) (by rw [hs,cB_len,Nat.mul_one]) (fun j u hu=>by
  have hadd:(⟨g,0,none⟩:Addr).add j=⟨g,j,none⟩:=by unfold Addr.add;split <;> simp_all
  have hj:j<n:=by
   rcases Nat.lt_or_ge j n with hj | hj
   ·exact hj
   rw [List.getElem?_eq_none (by rw [cB_len];exact hj)] at hu
   cases hu
  rw [hadd,RowB.cell ⟨cur,h1,h2,h3,h4,h5⟩ j hj,← hu,cB_get n f j hj]) ad m c2 _ hnl hnv (by omega) (by omega) (growslice_fits (by omega) (by rw [hby];omega))
 have hge:=grownCap_ge w (n+m) c 5
 refine ⟨w.heap.size,_,_,hr,⟨_,heap_alloc_new w.drew _,hge,grownCap_le_maxLen w _ _ _ (by unfold maxLen;omega),?_,?_⟩,⟨rfl,rfl,rfl,by simp,fun k hk h=>(World.grownBy_alloc w.drew _ (some g)).block k hk h⟩,.inr ⟨rfl,by omega⟩⟩
 ·simp only [Array.size_append,List.size_toArray,size_zeroCells,cB_len]
  simp [Value.cells]
  omega
 simp only [Array.toList_append]
 rw [hcat,List.take_left' (by rw [cB_len])]
section
variable {ops:Array Oper} {rest:List Oper} {o:Oper} {a:Act} {w:World} {Q:Exit→Act→World→Prop}
theorem wpList_app (hgd:o.guard=none) {s x:Operand} (ho:o.op=.call { callee:=.builtin .append,args:=#[s,x],argTypes:=#[22,22] }) {g n c:Nat} {f:Nat→Int} (hs:a.eval s=.slice (some ⟨g,0,none⟩) n c) (hR:RowB w g n c f)
  {ad:Addr} {m c2:Nat} (hx:a.eval x=.slice (some ad) m c2) (f2:Nat→Int) (hf:∀ i,i<n→f i=f2 i) (hnews:∀ j,j<m→w.cell? (ad.add j)=some (.int .u8 (f2 (n+j)))) (hb:n+m≤140737488355328)
  (h:∀ g' c' w',RowB w' g' (n+m) c' f2→w.grownBy w' (some g)→((g'=g∧c'=c∧n+m≤c)∨(g'=w.heap.size∧c<n+m))→wpList Tryz.prog ops Q rest (a.put o.dst (.slice (some ⟨g',0,none⟩) (n+m) c')) w'):wpList Tryz.prog ops Q (o::rest) a w :=
 wpList_plain hgd fun _ hK=>by
  obtain ⟨g',c',w',hr,h2,h3,h4⟩:=run_app w o.type hR ad m c2 hf hnews hb
  unfold Oper.wp execOp
  simp only [ho,resolve,invoke,builtin,Sem.run_bind,Sem.run_pure,Result.andThen_ok,List.map_toArray,List.map_cons,List.map_nil,hs,hx,hr]
  exact hK _ _ (h g' c' w' h2 h3 h4)
end
end Go.Proofs.YtnopjabcdloepaaGreatDoor
namespace Go.Proofs.YtnopjabcdloepaaGreatDoor
open Go.RowKit
def SrcB (w:World) (v:Value) (n:Nat) (b:Nat→Int):Prop:=(v=.slice none 0 0∧n=0)∨∃ g o c,v=.slice (some ⟨g,o,none⟩) n c∧g<w.heap.size∧∀ j,j<n→w.cell? ⟨g,o+j,none⟩=some (.int .u8 (b j))
theorem SrcB.below {w w':World} {v:Value} {n:Nat} {b:Nat→Int} (h:SrcB w v n b) (hb:Below w.heap.size w w'):SrcB w' v n b:=by
 rcases h with h | ⟨g,o,c,h1,h2,h3⟩
 ·exact .inl h
 exact .inr ⟨g,o,c,h1,Nat.lt_of_lt_of_le h2 hb.size,fun j hj=>(hb.cell (p:=⟨g,o+j,none⟩) h2).trans (h3 j hj)⟩
theorem add_o (g o j:Nat):(⟨g,o,none⟩:Addr).add j=⟨g,o+j,none⟩:=by unfold Addr.add;split <;> simp_all
end Go.Proofs.YtnopjabcdloepaaGreatDoor
namespace Go.Proofs.YtnopjabcdloepaaGreatDoor
open Go.RowKit Go.Shelf
attribute [local go_sem] Oper.semAt_some
def upto {α:Type} (f:Nat→α) (k:Nat):List α:=(List.range k).map f
theorem upto_succ {α:Type} (f:Nat→α) (k:Nat):upto f (k+1)=upto f k++[f k]:=by simp [upto,List.range_succ]
theorem upto_length {α:Type} (f:Nat→α) (k:Nat):(upto f k).length=k:=by simp [upto]
def bitB (b:Nat→Int) (k:Nat):Bool:=decide (b (k / 8) / 2 ^ (k % 8) % 2=1)
theorem and1_u8 {x:Int} (h0:0≤x) (h1:x<256):bits .and .u8 x 1=x % 2:=by
 have h:∀ y:Fin 256,bits .and .u8 (y.val:Int) 1=(y.val:Int) % 2:=by decide +kernel
 have:=h ⟨x.toNat,by omega⟩
 simpa [Int.toNat_of_nonneg h0] using this
theorem bit_eq {b:Nat→Int} (hr:∀ j,0≤b j∧b j<256) (k:Nat):(bits .and .u8 (b (k / 8) / 2 ^ (k % 8)) 1==1)=bitB b k:=by
 have h0:=hr (k / 8)
 have hp:(0:Int)<2 ^ (k % 8):=by exact Int.pow_pos (by decide)
 have h1:0≤b (k / 8) / 2 ^ (k % 8):=Int.ediv_nonneg h0.1 (Int.le_of_lt hp)
 have h2:b (k / 8) / 2 ^ (k % 8)<256:=Int.lt_of_le_of_lt (Int.ediv_le_self _ h0.1) h0.2
 rw [and1_u8 h1 h2]
 unfold bitB
 rfl
set_option maxRecDepth 100000 in
set_option maxHeartbeats 2000000 in
theorem each1_in (F:Fence) (n:Nat) (hf:F.fn 357) (hro:F.round=none) (hn:1≤n) (l Bs n₀ g o c:Nat) (b:Nat→Int) (hr:∀ j,0≤b j∧b j<256) (hg:g<n₀) (J Jx:List Bool→World→Prop)
  (hY:∀ pre x W,J pre W→pre.length<256→YieldAt F (n-1) Tryz.prog l #[.bool x] W fun e W' =>
   (e=.returned (.bool true)∧J (pre++[x]) W'∧Below n₀ W W')∨(e=.returned (.bool false)∧Jx (pre++[x]) W'))
  (W:World) (hBs:W.cell? ⟨Bs,0,none⟩=some (.slice (some ⟨g,o,none⟩) 32 c)) (hB:Bs<n₀) (hc:∀ j,j<32→W.cell? ⟨g,o+j,none⟩=some (.int .u8 (b j))) (h0:J [] W) :
  CallsIn F n Tryz.prog 357 #[.func (.yield l) #[] #[],.pointer (some ⟨Bs,0,none⟩)] W fun e W'=>(∃ v,e=.returned v) ∧
   ((∃ ys,ys=upto (bitB b) 256∧J ys W')∨(∃ pre,True∧Jx pre W')):=by
 replace hY:=Lib.hid hY
 replace hr:=Lib.hid hr
 replace hc:=Lib.hid hc
 refine callsIn_of_wp Tryz.func357 rfl hf ?_ hro
 simp only [Tryz.ntmps357,List.size_toArray,List.length_cons,List.length_nil,Nat.reduceAdd,Nat.reduceSub,Array.replicate_succ,Array.replicate_zero,List.push_toArray,List.append_toArray,List.nil_append,List.cons_append]
 gi_wp2
 gi_loopw [7] (fun i wr=>∃ k:Nat,k≤256∧i=.int .i64 k∧J (upto (bitB b) k) wr∧Below n₀ W wr)
  (fun i _=>256-(intOf i).toNat)
 case atStart=>exact ⟨0,Nat.zero_le _,rfl,h0,Below.refl _ _⟩
 case round =>
  obtain ⟨k,hk,rfl,hJs,hnx⟩:=hrel
  by_cases hlt:k<256
  ·obtain ⟨fn,tmps,assign,body,hy,hR⟩:=hY.out _ (bitB b k) wr hJs (by rw [upto_length];exact hlt)
   have hq:wr.cell? ⟨Bs,0,none⟩=some (.slice (some ⟨g,o,none⟩) 32 c):=(hnx.cell (p:=⟨Bs,0,none⟩) hB).trans hBs
   have hcx:wr.cell? ⟨g,o+k / 8,none⟩=some (.int .u8 (b (k / 8))):=(hnx.cell (p:=⟨g,o+k / 8,none⟩) hg).trans (hc.out _ (by omega))
   have hbit:=bit_eq hr.out k
   obtain ⟨x,hx⟩:∃ x,bitB b k=x:=⟨_,rfl⟩
   rw [hx] at hy hR hbit
   replace hx:=Lib.hid hx
   have hk0:(0:Int)≤(k:Int):=by omega
   have hk1:(k:Int)<256:=by omega
   gi_wp2
   refine hR.mono ?_
   rintro e W3 (⟨rfl,hJ3,hk3⟩ | ⟨rfl,hJx3⟩)
   ·gi_wp2
    go_roundw
    case rel=>exact ⟨k+1,by omega,by simp,by rw [upto_succ,hx.out];exact hJ3,hnx.trans hk3⟩
    case measure=>simp [intOf];omega
   gi_wp2
   refine bodyPost_ret (results_none rfl _ _ _) rfl ?_
   exact ⟨⟨_,rfl⟩,.inr ⟨_,trivial,hJx3⟩⟩
  obtain rfl:k=256:=by omega
  gi_wp2
  go_end0
  exact ⟨⟨_,rfl⟩,.inl ⟨_,rfl,hJs⟩⟩
theorem each_stops (F:Fence) (n:Nat) (hf:F.fn 357) (hro:F.round=none) (hn:1≤n) (Bs n₀ g o c:Nat) (b:Nat→Int) (hr:∀ j,0≤b j∧b j<256) (w:World) (hg:g<n₀) (hB:Bs<n₀) (hn₀:n₀≤w.heap.size)
  (hBs:w.cell? ⟨Bs,0,none⟩=some (.slice (some ⟨g,o,none⟩) 32 c)) (hc:∀ j,j<32→w.cell? ⟨g,o+j,none⟩=some (.int .u8 (b j))) :
  SeqStopsK F n Tryz.prog 357 #[.pointer (some ⟨Bs,0,none⟩)] (fun x:Bool=>#[.bool x]) (Below n₀) (fun ys=>ys=upto (bitB b) 256) (fun _=>True) 256 w:=fun l J Jx W hW _ _ hY h0 =>
 each1_in F n hf hro hn l Bs n₀ g o c b hr hg J Jx hY W ((hW.cell (p:=⟨Bs,0,none⟩) (by show Bs<_;omega)).trans hBs) hB (fun j hj=>(hW.cell (p:=⟨g,o+j,none⟩) (by show g<_;omega)).trans (hc j hj)) h0
theorem bool_info:(Tryz.prog.info? 4).map (fun i=>(i.zero,i.size,i.bytes))=some (some (.bool false),1,1):=by kernel_rfl
theorem bools_under:Tryz.prog.underlying 285=some (.slice 4):=by kernel_rfl
set_option maxRecDepth 100000 in
set_option maxHeartbeats 2000000 in
theorem aseq_c (Bs g o c:Nat) (b:Nat→Int) (hr:∀ j,0≤b j∧b j<256) (w:World) (hg:g<w.heap.size) (hB:Bs<w.heap.size)
  (hBs:w.cell? ⟨Bs,0,none⟩=some (.slice (some ⟨g,o,none⟩) 32 c)) (hc:∀ j,j<32→w.cell? ⟨g,o+j,none⟩=some (.int .u8 (b j))) :
  Calls Tryz.prog 356 #[.slice none 0 0,.func (.func 357) #[] #[.pointer (some ⟨Bs,0,none⟩)]] w fun e W'=>∃ v,e=.returned v∧W'.ownsRow w.heap.size 4 1 v 256 ((upto (bitB b) 256).map Value.bool)∧Below w.heap.size w W':=by
 refine (callsIn_wide (n:=3)).1 ?_
 have hro:Fence.wide.round=none:=rfl
 have h1:1≤3:=by decide
 obtain ⟨i0,hi,hz0,hz1,hz2⟩:=info_parts bool_info
 replace hc:=Lib.hid hc
 replace hr:=Lib.hid hr
 refine callsIn_of_wp_marks Tryz.func356 rfl trivial ?_ hro
 simp only [Tryz.ntmps356,List.size_toArray,List.length_cons,List.length_nil,Nat.reduceAdd,Nat.reduceSub,Array.replicate_succ,Array.replicate_zero,List.push_toArray,List.append_toArray,List.nil_append,List.cons_append]
 gi_wp2
 have bO:=Boxed.new w 285 (.slice none 0 0)
 have hB0:Below w.heap.size w (w.alloc (.cells #[.slice none 0 0] 285)):=(Below.refl _ w).alloc (Nat.le_refl _) _
 refine wpIn_rangeFunc_ownG hro h1 (gf:=357) (lb:=#[.pointer (some ⟨Bs,0,none⟩)]) rfl trivial (enters_of Tryz.func357 (by kernel_rfl) rfl)
  (each_stops Fence.wide (3-1) trivial hro (by decide) Bs w.heap.size g o c b hr.out _ hg hB (by simp) ((hB0.cell (p:=⟨Bs,0,none⟩) hB).trans hBs) (fun j hj=>(hB0.cell (p:=⟨g,o+j,none⟩) hg).trans (hc.out j hj))) belowK_t (belowK_b (by simp)) (Below.refl _ _) (fun _=>rfl)
  (fun pre W=>(∃ v,Boxed W w.heap.size 285 v∧W.ownsRow w.heap.size 4 1 v pre.length (pre.map Value.bool)∧True)∧Below w.heap.size w W)
  (fun _ _ _=>False)
  (OwnFrom.and (Own.from (holdsRow_own w.heap.size w.heap.size 285 4 1 (fun (pre:List Bool)=>pre.length) (fun (pre:List Bool)=>pre.map Value.bool) (fun _ _=>True)) _) (ownFrom_below (Nat.le_refl _) (by simp)))
  (fun _ _ _ _ _ hs _ _=>hs)
  ⟨⟨_,bO,World.ownsRow_nil _ _ _ _,trivial⟩,hB0⟩
  (fun x=>{ tmps:=#[.slice none 0 0,.func (.func 357) #[] #[.pointer (some ⟨Bs,0,none⟩)],.pointer (some ⟨w.heap.size,0,none⟩),undef,.slice none 0 0,.bool x,.func (.func 357) #[] #[.pointer (some ⟨Bs,0,none⟩)],.bool x,undef,undef,undef,undef,undef],defers:=[] }) ?assign ?body ?done ?stop
 case assign =>
  intro l x W K hK
  gi_wp2
  exact hK
 case body =>
  rintro l pre x W ⟨⟨v,hv,hrow,_⟩,hB⟩ hlt
  have hcv:=hv.cell
  gi_wp2_with (gi_at_builtin;refine wpListIn_append_own _ rfl _ _ 285 rfl w.heap.size 4 i0 (.bool false) 1 1 bools_under hi hz0 hz1 hz2 rfl (by decide) _ _ _ rfl (hrow.alloc _) ⟨W.heap.size,0,none⟩ 1 1 [.bool x] rfl rfl (cell_one_new _ _ _) (by simp [Value.oneCell']) (by unfold maxLen;omega) (by omega) (by have:=hB.size;simp;omega) ?_;intro v' w1 hown' hgrow _;obtain ⟨g',cap',rfl⟩:=ownsRow_succ hown';obtain ⟨hv1,hv2,hr2,hk2,hb2⟩:=hv.appended (by decide) hrow hB.size (Nat.le_refl _) hown' hgrow;have hc1:=hv1.cell;have hf1:=hv1.frozen)
  exact ⟨hk2.from _,hb2,⟨_,hv2,by simpa using hr2,trivial⟩,hB.trans hb2⟩
 case done =>
  rintro D ys W hD rfl ⟨⟨v,hv,hrow,_⟩,hB⟩ hK
  have hcv:=hv.cell
  gi_wp2
  refine ⟨by simp,.inl ⟨_,_,rfl,run_takeDeferred hK,?_⟩⟩
  exact ⟨_,results_tmp rfl _ _ _,v,rfl,by rw [upto_length] at hrow;exact ownsRow_putObj hrow _ hK rfl,hB.trans (belowK_b (w:=w) (Nat.le_refl _) W D _ _ (by simp at hD;omega) hK rfl rfl)⟩
 case stop =>
  rintro D c pre W _ _ h _
  exact h.elim
theorem own_down {w:World} {B B':Nat} {e:TypeId} {size n:Nat} {v:Value} {xs:List Value} (h:w.ownsRow B e size v n xs) (hB:B'≤B):w.ownsRow B' e size v n xs:=by
 obtain ⟨hl,h1 | ⟨g,cap,cur,h1,h2,h3⟩⟩:=h
 ·exact ⟨hl,.inl h1⟩
 exact ⟨hl,.inr ⟨g,cap,cur,h1,Nat.le_trans hB h2,h3⟩⟩
theorem upto_get {α:Type} (f:Nat→α) (k j:Nat) (h:j<k):(upto f k)[j]?=some (f j):=by simp [upto,h]
def PostBits (b:Nat→Int) (w:World) (e:Ending) (w':World):Prop:=∃ g c,w.heap.size≤g∧e=.returned (.slice (some ⟨g,0,none⟩) 256 c)∧w'.ownsRow w.heap.size 4 1 (.slice (some ⟨g,0,none⟩) 256 c) 256 ((upto (bitB b) 256).map Value.bool)∧(∀ k,k<256→w'.cell? ⟨g,k,none⟩=some (.bool (bitB b k)))∧Below w.heap.size w w'
set_option maxRecDepth 20000 in
set_option maxHeartbeats 2000000 in
theorem sbits_c (g o c:Nat) (b:Nat→Int) (hr:∀ j,0≤b j∧b j<256) (w:World) (hg:g<w.heap.size) (hc:∀ j,j<32→w.cell? ⟨g,o+j,none⟩=some (.int .u8 (b j))) :
  Calls Tryz.prog 260 #[.slice (some ⟨g,o,none⟩) 32 c] w (PostBits b w):=by
 have heach:∀ w:World,Calls Tryz.prog 329 #[.slice (some ⟨g,o,none⟩) 32 c] w fun e w'=>e=.returned (.func (.func 357) #[] #[.pointer (some ⟨w.heap.size,0,none⟩)])∧w'=w.alloc (.cells #[.slice (some ⟨g,o,none⟩) 32 c] 22):=fun w=>by
  go_enter Tryz.func329,Tryz.ntmps329
  go_wp2
  go_returns
  exact ⟨rfl,rfl⟩
 have hcol:Calls Tryz.prog 328 #[.func (.func 357) #[] #[.pointer (some ⟨w.heap.size,0,none⟩)]] (w.alloc (.cells #[.slice (some ⟨g,o,none⟩) 32 c] 22)) (PostBits b w):=by
  have h:=aseq_c w.heap.size g o c b hr (w.alloc (.cells #[.slice (some ⟨g,o,none⟩) 32 c] 22)) (by rw [World.size_alloc];omega) (by rw [World.size_alloc];omega) (Boxed.new w _ _).cell (fun j hj=>(((Below.refl w.heap.size w).alloc (Nat.le_refl _) _).cell (p:=⟨g,o+j,none⟩) hg).trans (hc j hj))
  replace h:=Lib.hid h
  clear hc hr hg heach
  go_enter Tryz.func328,Tryz.ntmps328
  go_wp2_with fail
  refine h.out.mono ?_
  rintro e w' ⟨v,rfl,hown,hb⟩
  obtain ⟨g',c',rfl⟩:=ownsRow_succ hown
  have hP:=Lib.hid (show PostBits b w (.returned (.slice (some ⟨g',0,none⟩) 256 c')) w' from by
   have hs:w.heap.size≤(w.alloc (.cells #[.slice (some ⟨g,o,none⟩) 32 c] 22)).heap.size:=by rw [World.size_alloc];omega
   have hown2:=own_down hown hs
   refine ⟨g',c',(hown2.lt g' rfl).1,rfl,hown2,fun k hk=>?_,((Below.refl w.heap.size w).alloc (Nat.le_refl _) _).trans (hb.mono hs)⟩
   have:=hown2.cells (g:=g') rfl k (.bool (bitB b k)) (by rw [List.getElem?_map,upto_get _ _ _ hk];rfl)
   rw [add_o,Nat.zero_add] at this
   exact this)
  clear hown hb
  go_wp2
  go_returns
  exact hP.out
 replace hcol:=Lib.hid hcol
 clear hc hr hg
 go_enter Tryz.func260,Tryz.ntmps260
 go_wp2_with fail
 refine (heach _).mono ?_
 rintro e w1 ⟨rfl,rfl⟩
 go_wp2_with fail
 refine hcol.out.mono ?_
 rintro e w2 hP
 obtain ⟨g',c',hlo,rfl,h2⟩:=id hP
 clear h2 hlo hcol heach
 replace hP:=Lib.hid hP
 go_wp2
 go_returns
 exact hP.out
end Go.Proofs.YtnopjabcdloepaaGreatDoor
