import Derived.Test.YtnopjabcdloepaaGreatDoorKi
import Derived.Maps.Own
import Derived.Maps.OwnSet
import Derived.Maps.Views
import Derived.Laws.Strings
import Derived.Test.YtnopjabcdloepaaGreatDoorKr
import Derived.Test.YtnopjabcdloepaaGreatDoorEs
import Derived.Deep.CutRange
import Derived.Deep.RegionHeld3
namespace Go.Proofs.YtnopjabcdloepaaGreatDoor.Rc
open Go Go.RowKit
structure TxV where
 q:Option Addr
 c:Nat
 xs:List Int
def TsAt (w:World) (p:Option Addr) (T:List TxV):Prop:=0<T.length→∃ g o,p=some ⟨g,o,none⟩∧g<w.heap.size∧∀ (i:Nat) (x:TxV),T[i]?=some x→w.cell? ⟨g,o+i,none⟩=some (.slice x.q x.xs.length x.c)∧BytesL w x.q x.xs∧x.xs.length≤x.c
theorem TsAt.below {w w':World} {p:Option Addr} {T:List TxV} (h:TsAt w p T) (hb:Below w.heap.size w w'):TsAt w' p T:=fun h0=>by
 obtain ⟨g,o,e,hg,hc⟩:=h h0
 exact ⟨g,o,e,Nat.lt_of_lt_of_le hg hb.size,fun i x hx=>by
  obtain ⟨h1,h2,h3⟩:=hc i x hx
  exact ⟨(hb.cell (p:=⟨g,o+i,none⟩) hg).trans h1,h2.below hb,h3⟩⟩
def smL (xs:List Int):List Int:=fL 64 (Sh.sumI (Sh.lenI [(xs.length,gB xs)]) (Sh.catI [(xs.length,gB xs)]))
theorem smL_br (xs:List Int):BR (smL xs):=fL_br (Sh.sumI_byt _ _)
theorem smL_len (xs:List Int):(smL xs).length=64:=fL_len _ _
def fsT (T:List TxV) (s:List Int):Option TxV:=T.find? (fun x=>decide (smL x.xs=s))
theorem fsT_snoc (T:List TxV) (y:TxV) (s:List Int):fsT (T++[y]) s=match fsT T s with | some x=>some x | none=>if smL y.xs=s then some y else none:=by
 unfold fsT
 rw [List.find?_append]
 cases h:T.find? (fun x=>decide (smL x.xs=s)) with
 | some x=>rfl
 | none =>
  show (none:Option TxV).or (List.find? _ [y])=_
  by_cases e:smL y.xs=s
  ·simp [e]
  simp [e]
theorem fsT_sum {T:List TxV} {s:List Int} {x:TxV} (h:fsT T s=some x):smL x.xs=s∧x∈T:=⟨by simpa using List.find?_some h,List.mem_of_find?_eq_some h⟩
def heldE (v:Value):Option (DataW Value × List MemPlace):=some (.held v,[])
def slT (x:TxV):Value:=.slice x.q x.xs.length x.c
def SeenD (D:DataW Value) (T:List TxV):Prop:=Maps.IsMap D∧∀ s,BR s→Maps.has D (klit s)=(fsT T s).isSome∧∀ x,fsT T s=some x→D.atKey (klit s) (.held (.slice none 0 0))=.held (slT x)
theorem SeenD.nil:SeenD (.map []) []:=⟨⟨[],rfl⟩,fun s _=>⟨rfl,fun x h=>by cases h⟩⟩
theorem SeenD.put {D:DataW Value} {T:List TxV} (h:SeenD D T) {y:TxV} (hy:fsT T (smL y.xs)=none):SeenD (D.put (klit (smL y.xs)) (.held (slT y))) (T++[y]):=by
 have hk:WideAt.IsKeyLit (klit (smL y.xs)):=trivial
 refine ⟨?_,fun s hs=>?_⟩
 ·obtain ⟨es,rfl⟩:=h.1
  exact ⟨_,rfl⟩
 by_cases e:smL y.xs=s
 ·subst e
  rw [fsT_snoc,hy]
  refine ⟨by rw [Maps.has_put_same h.1 hk];simp,fun x hx=>?_⟩
  obtain rfl:y=x:=by simpa using hx
  exact Maps.atKey_put_same h.1 hk _ _
 have hne:klit s≠klit (smL y.xs):=fun he=>e (klit_inj hs (smL_br _) he).symm
 rw [Maps.has_put_other hne,Maps.atKey_put_other hne,fsT_snoc,if_neg e]
 obtain ⟨h1,h2⟩:=h.2 s hs
 cases hf:fsT T s with
 | none=>rw [hf] at h1;exact ⟨h1,fun x hx=>by cases hx⟩
 | some z=>rw [hf] at h1 h2;exact ⟨h1,fun x hx=>by injection hx with hx;subst hx;exact h2 z rfl⟩
theorem SeenD.same {D:DataW Value} {T:List TxV} (h:SeenD D T) {y x:TxV} (hy:fsT T (smL y.xs)=some x):SeenD D (T++[y]):=by
 refine ⟨h.1,fun s hs=>?_⟩
 have e:fsT (T++[y]) s=fsT T s:=by
  rw [fsT_snoc]
  cases hf:fsT T s with
  | some z=>rfl
  | none =>
   by_cases e:smL y.xs=s
   ·subst e
    rw [hy] at hf
    cases hf
   show (if smL y.xs=s then some y else none)=none
   rw [if_neg e]
 rw [e]
 exact h.2 s hs
def NoCl (T:List TxV) (k:Nat):Prop:=∀ (j:Nat) (y x:TxV),j<k→T[j]?=some y→fsT (T.take j) (smL y.xs)=some x→x.xs=y.xs
set_option maxRecDepth 20000 in
set_option maxHeartbeats 2000000 in
theorem bequal_c (p1 p2:Option Addr) (n1 c1 n2 c2:Nat) (xs ys:List Int) (h1:n1=xs.length) (h2:n2=ys.length) (hx:BR xs) (hy:BR ys) (w:World) (k1:BytesL w p1 xs) (k2:BytesL w p2 ys) :
  Calls Tryz.prog 144 #[.slice p1 n1 c1,.slice p2 n2 c2] w (PostV (.bool (decide (xs=ys))) w):=by
 subst h1 h2
 have kc1:=conv_str w p1 xs.length c1 xs rfl k1
 have kc2:=conv_str w p2 ys.length c2 ys rfl k2
 by_cases e:xs=ys
 ·subst e
  have hkk:((strOfNums xs).toList==(strOfNums xs).toList)=true:=beq_self_eq_true _
  rw [decide_eq_true rfl]
  clear hx hy k1 k2
  go_enter Tryz.func144,Tryz.ntmps144
  go_wp2
  go_returns
  exact ⟨rfl,Below.refl _ _⟩
 have hne:¬ (strOfNums xs).toList=(strOfNums ys).toList:=fun h=>e (klit_inj hx hy (by unfold klit;rw [← ByteArray.toList_eq,← ByteArray.toList_eq,h]))
 have hkk:((strOfNums xs).toList==(strOfNums ys).toList)=false:=beq_false_of_ne hne
 rw [decide_eq_false e]
 clear hx hy k1 k2 e hne
 go_enter Tryz.func144,Tryz.ntmps144
 go_wp2
 go_returns
 exact ⟨rfl,Below.refl _ _⟩
end Go.Proofs.YtnopjabcdloepaaGreatDoor.Rc

namespace Go.Proofs.YtnopjabcdloepaaGreatDoor.Rc
open Go Go.RowKit
theorem mapB_under:Tryz.prog.underlying 198=some (.map 9 22):=by kernel_rfl
theorem zeroB (w:World):(zeroValue 22).run Tryz.prog w=.ok (.slice none 0 0) w:=by kernel_rfl
section
variable {ops:Array Oper} {rest:List Oper} {o:Oper} {a:Act} {Q:Exit→Act→World→Prop}
theorem wpList_lookS (w:World) (hg:o.guard=none) {m x:Operand} (hop:o.op=Op.lookup 198 m x true) {b n:Nat} {D:DataW Value} {T:List TxV} (hm:a.eval m=.map (some b)) (hown:w.ownsMap Tryz.prog 9 heldE b n D) (hs:SeenD D T) {s:List Int} (hb:BR s) (hl:s.length≤2000000) (hx:a.eval x=.string (strOfNums s)) {y:TxV} (hf:fsT T s=some y)
  (h:wpList Tryz.prog ops Q rest (a.put o.dst (.tuple #[.slice y.q y.xs.length y.c,.bool true])) w):wpList Tryz.prog ops Q (o::rest) a w :=
 wpList_lookup_own_ok w hg m x 198 hop 9 22 law mapB_under heldE (zeroB w) (.held (.slice none 0 0)) [] rfl b n D hm hown _ _ hx (klit_key s hl) (fun v ps hv=>by
  obtain ⟨h1,h2⟩:=hs.2 s hb
  rw [h2 y hf] at hv
  unfold heldE at hv
  injection hv with hv
  injection hv with hv _
  injection hv with hv
  rw [h1,hf,hv]
  exact h)
theorem wpList_lookN (w:World) (hg:o.guard=none) {m x:Operand} (hop:o.op=Op.lookup 198 m x true) {b n:Nat} {D:DataW Value} {T:List TxV} (hm:a.eval m=.map (some b)) (hown:w.ownsMap Tryz.prog 9 heldE b n D) (hs:SeenD D T) {s:List Int} (hb:BR s) (hl:s.length≤2000000) (hx:a.eval x=.string (strOfNums s)) (hf:fsT T s=none)
  (h:∀ v,wpList Tryz.prog ops Q rest (a.put o.dst (.tuple #[v,.bool false])) w):wpList Tryz.prog ops Q (o::rest) a w :=
 wpList_lookup_own_ok w hg m x 198 hop 9 22 law mapB_under heldE (zeroB w) (.held (.slice none 0 0)) [] rfl b n D hm hown _ _ hx (klit_key s hl) (fun v ps hv=>by
  obtain ⟨h1,-⟩:=hs.2 s hb
  rw [h1,hf]
  exact h v)
end
theorem own_cap {w:World} {B n:Nat} {p:Option Addr} {m c:Nat} {xs:List Int} (h:w.ownsRow B 5 1 (.slice p m c) n (bL xs)):xs.length≤c:=by
 obtain ⟨p',c',e,hc,_⟩:=own_pv h
 injection e with e1 e2 e3
 omega
def PostCh (T:List TxV) (w:World) (e:Ending) (w':World):Prop:=(∃ (k:Nat) (x y:TxV) (q1:Option Addr) (d1:Nat) (q2:Option Addr) (d2:Nat),e=.returned (.tuple #[.slice q1 x.xs.length d1,.slice q2 y.xs.length d2,.bool true])∧T[k]?=some y∧fsT (T.take k) (smL y.xs)=some x∧x.xs≠y.xs∧BytesL w' q1 x.xs∧BytesL w' q2 y.xs∧(x.xs.length≤d1∧y.xs.length≤d2)∧Below w.heap.size w w')∨(e=.returned (.tuple #[.slice none 0 0,.slice none 0 0,.bool false])∧NoCl T T.length∧Below w.heap.size w w')
theorem NoCl.step {T:List TxV} {k:Nat} {y:TxV} (h:NoCl T k) (hy:T[k]?=some y) (hx:∀ x,fsT (T.take k) (smL y.xs)=some x→x.xs=y.xs):NoCl T (k+1):=fun j z x hj hz hf=>by
 by_cases e:j=k
 ·subst e
  rw [hy] at hz
  obtain rfl:y=z:=by injection hz
  exact hx x hf
 exact h j z x (by omega) hz hf
set_option maxRecDepth 20000 in
set_option maxHeartbeats 8000000 in
theorem Clash_c (p:Option Addr) (n c:Nat) (T:List TxV) (hn:n=T.length) (hn2:n≤1000000) (hT:∀ x∈T,BR x.xs∧x.xs.length≤1000000) (w:World) (hA:TsAt w p T) (hS:ShP w) :
  Calls Tryz.prog 79 #[.slice p n c] w (PostCh T w):=by
 have hB:=hS.lt
 have hmm:=@run_makeMap Tryz.prog
 have hsm:=Lib.hid (fun (x:TxV) (hx:x∈T) w1 (hb:Below w.heap.size w w1) (hX:BytesL w1 x.q x.xs) (hc:x.xs.length≤x.c)=>show Calls Tryz.prog 160 #[.slice (some ⟨w1.heap.size,0,none⟩) 1 1] (w1.alloc (.cells #[.slice x.q x.xs.length x.c] 22)) (PostBs 64 (Sh.sumI (Sh.lenI [(x.xs.length,gB x.xs)]) (Sh.catI [(x.xs.length,gB x.xs)])) w1) from by
  have ha:Below w1.heap.size w1 (w1.alloc (.cells #[.slice x.q x.xs.length x.c] 22)):=(Below.refl _ _).alloc (Nat.le_refl _) _
  have hb2:=hb.trans (ha.mono hb.size)
  have hk:Blk (w1.alloc (.cells #[.slice x.q x.xs.length x.c] 22)) w1.heap.size 22 #[.slice x.q x.xs.length x.c]:=Blk.new _ _ _
  exact (sha_l w1.heap.size 0 1 [.slice x.q x.xs.length x.c] [(x.xs.length,gB x.xs)] _ hk.lt (fun j u hu=>by rw [Nat.zero_add,hk.cell j];simpa using hu) ⟨⟨x.q,x.c,rfl,hc,(hX.below ha).bx⟩,trivial⟩ ⟨fun j _=>gB_byt (hT x hx).1 j,trivial⟩ (by show x.xs.length+0≤10000000;have:=(hT x hx).2;omega) (by show 1≤1000000;decide) (hS.below hb2 hB) (by have:=hb2.size;omega)).mono (fun e w' ⟨g',c',he,hg,hR,hbb⟩=>⟨g',c',he,by have:=ha.size;omega,hR,ha.trans (hbb.mono ha.size)⟩))
 replace hA:=Lib.hid hA
 replace hT:=Lib.hid hT
 replace hn:=Lib.hid hn
 clear hS
 go_enter Tryz.func79,Tryz.ntmps79
 go_wp2_with fail
 refine at_world (fun W hW=>?_)
 obtain ⟨mb,hmb⟩:∃ g,g=w.heap.size:=⟨_,rfl⟩
 have hM:W.ownsMap Tryz.prog 9 heldE mb 0 (.map []):=by rw [hW,hmb];exact World.ownsMap_made w Tryz.prog 9 heldE
 have hb0:Below w.heap.size w W:=by rw [hW];go_grown
 have lm:w.heap.size≤mb:=by omega
 rw [← hmb]
 clear hW hmb
 go_loopw [7,8,9,10,14] (fun _ _ _ _ i wr=>∃ (k:Nat) (D:DataW Value),k≤n∧i=.int .i64 k∧wr.ownsMap Tryz.prog 9 heldE mb k D∧SeenD D (T.take k)∧NoCl T k∧Below w.heap.size w wr) (fun _ _ _ _ i _=>(n-intOf i).toNat)
 case atStart=>exact ⟨0,_,by omega,rfl,hM,SeenD.nil,fun j y x h=>absurd h (by omega),hb0⟩
 case round =>
  obtain ⟨k,D,hk,rfl,hM',hD,hno,hb⟩:=hrel
  clear hM hb0
  replace hM':=Lib.hid hM'
  replace hD:=Lib.hid hD
  replace hno:=Lib.hid hno
  by_cases he:k=n
  ·subst he
   clear hsm
   go_wp2
   go_returns
   exact .inr ⟨rfl,by rw [← hn.out];exact hno.out,hb⟩
  have hkl:k<T.length:=by have:=hn.out;omega
  obtain ⟨y,hy⟩:∃ x,T[k]?=some x:=⟨_,List.getElem?_eq_getElem hkl⟩
  obtain ⟨g,o,rfl,hg,hc⟩:=(hA.out.below hb) (by omega)
  obtain ⟨y0,hyb,hyc⟩:=hc k y hy
  have hyT:=List.mem_of_getElem? hy
  have htk:=Lib.hid (show T.take (k+1)=T.take k++[y] by rw [List.take_add_one,hy];rfl)
  have j0:(0:Int)≤(k:Int):=by omega
  have j1:(k:Int)<(n:Int):=by omega
  have j2:k<n:=by omega
  have cS:=Lib.hid (hsm.out y hyT wr hb hyb hyc)
  have hbr:=Lib.hid (smL_br y.xs)
  have hyr:=Lib.hid (hT.out y hyT)
  replace hy:=Lib.hid hy
  replace hb:=Lib.hid hb
  clear hc he hk hkl hyb hyc hyT
  go_wp2_with fail
  refine cS.out.mono ?_
  rintro e w2 ⟨gs,cs,rfl,lgs,hR,hb2⟩
  have hMl:=hM'.out.lt
  have hM2:=Lib.hid (hM'.out.kept (w':=w2) (row:=none) ⟨hb2.os,hb2.tape,hb2.output,hb2.size,fun k hk _=>hb2.block k hk⟩ (by simp))
  have kc:=conv_str w2 (some ⟨gs,0,none⟩) 64 cs (smL y.xs) (smL_len _).symm (rowB_l hR)
  replace hb:=Lib.hid (hb.out.trans (hb2.mono hb.out.size))
  clear cS hb2 hR hM' y0
  cases hf:fsT (T.take k) (smL y.xs) with
  | none =>
   replace hf:=Lib.hid hf
   go_wp2_with (first | (at_lookup;refine wpList_lookN w2 rfl rfl rfl hM2.out hD.out hbr.out (by rw [smL_len];decide) rfl hf.out ?_;intro v) | (at_mapUpdate;refine wpList_mapUpdate_own w2 rfl _ _ _ 198 rfl 9 22 law mapB_under heldE mb k D rfl hM2.out (by unfold maxLen;omega) _ _ (klit (smL y.xs)) rfl rfl (klit_key _ (by rw [smL_len];decide)) (.held (slT y)) [] rfl ?_;intro w3 hM3 hg3))
   exact ⟨⟨k+1,_,by omega,by simp,hM3,by rw [htk.out];exact SeenD.put hD.out hf.out,hno.out.step hy.out (fun x hx=>by rw [hf.out] at hx;cases hx),hb.out.grown hg3 hb.out.size (fun k hk=>by have:mb=k:=Option.some.inj hk;omega)⟩,by simp [intOf];omega⟩
  | some x =>
   have hxs:=fsT_sum hf
   obtain ⟨jx,hjx⟩:=List.mem_iff_getElem?.1 (List.mem_of_mem_take hxs.2)
   have hxr:=Lib.hid (hT.out x (List.mem_of_mem_take hxs.2))
   obtain ⟨g',o',e',-,hc'⟩:=(hA.out.below hb.out) (by have:=hn.out;omega)
   obtain ⟨-,kx,-⟩:=hc' jx x hjx
   obtain ⟨-,ky,-⟩:=hc' k y hy.out
   replace hf:=Lib.hid hf
   have cE:=Lib.hid (bequal_c x.q y.q x.xs.length x.c y.xs.length y.c x.xs y.xs rfl rfl hxr.out.1 hyr.out.1 w2 kx ky)
   have cl1:=Lib.hid (fun w1 (hb:Below w2.heap.size w2 w1)=>cloneB_c x.q x.xs.length x.c x.xs rfl hxr.out.2 w1 (kx.below hb))
   have cl2:=Lib.hid (fun w1 (hb:Below w2.heap.size w2 w1)=>cloneB_c y.q y.xs.length y.c y.xs rfl hyr.out.2 w1 (ky.below hb))
   clear hxs hjx hc' e' kx ky
   go_wp2_with (first | (at_lookup;refine wpList_lookS w2 rfl rfl rfl hM2.out hD.out hbr.out (by rw [smL_len];decide) rfl hf.out ?_))
   refine cE.out.mono ?_
   rintro e w3 ⟨rfl,hb2⟩
   have hM3:=Lib.hid (hM2.out.kept (w':=w3) (row:=none) ⟨hb2.os,hb2.tape,hb2.output,hb2.size,fun k hk _=>hb2.block k hk⟩ (by simp))
   replace hb:=Lib.hid (hb.out.trans (hb2.mono hb.out.size))
   clear kc cE hM2
   by_cases hxy:x.xs=y.xs
   ·rw [decide_eq_true hxy]
    replace hxy:=Lib.hid hxy
    clear hb2 cl1 cl2
    go_wp2_with fail
    exact ⟨⟨k+1,_,by omega,by simp,hM3.out.mono (by omega),by rw [htk.out];exact SeenD.same hD.out hf.out,hno.out.step hy.out (fun z hz=>by rw [hf.out] at hz;injection hz with hz;rw [← hz];exact hxy.out),hb.out⟩,by simp [intOf];omega⟩
   rw [decide_eq_false hxy]
   replace hxy:=Lib.hid hxy
   have hb2':=Lib.hid hb2
   clear hb2
   go_wp2_with fail
   refine (cl1.out w3 hb2'.out).mono ?_
   rintro e w4 ⟨q1,d1,rfl,o1,hb3⟩
   have n4:=Lib.hid (hb2'.out.trans (hb3.mono hb2'.out.size))
   replace hb:=Lib.hid (hb.out.trans (hb3.mono hb.out.size))
   have k1:=(own_BF (S:=[]) o1 (fun _ _=>by simp)).b
   have cp1:=own_cap o1
   clear hb3 cl1 hb2' o1
   replace k1:=Lib.hid k1
   go_wp2_with fail
   refine (cl2.out w4 n4.out).mono ?_
   rintro e w5 ⟨q2,d2,rfl,o2,hb3⟩
   have k12:=Lib.hid (k1.out.below hb3)
   have cp2:=own_cap o2
   have k2:=Lib.hid ((own_BF (S:=[]) o2 (fun _ _=>by simp)).b)
   replace hb:=Lib.hid (hb.out.trans (hb3.mono hb.out.size))
   clear hb3 cl2 o2 k1 n4
   go_wp2_with fail
   go_returns
   exact .inl ⟨k,x,y,q1,d1,q2,d2,rfl,hy.out,hf.out,hxy.out,k12.out,k2.out,⟨cp1,cp2⟩,hb.out⟩
end Go.Proofs.YtnopjabcdloepaaGreatDoor.Rc

namespace Sh
open Go Go.Proofs.YtnopjabcdloepaaGreatDoor Go.Proofs
def j1 (f:Nat→Nat) (j:Nat):Nat:=if j<1 then f j else if j=1 then 128 else if j<120 then 0 else 8 / 2 ^ (56-8*(j-120)) % 256
theorem sum1 {f:Nat→Int} {g:Nat→Nat} (hf:∀ j,j<1→f j=(g j:Int)):sumI 1 f=outI (blkI ivI (fun j=>(j1 g j:Int))):=by
 show outI (blkI ivI (fun j=>joinI 1 f (128*0+j)))=_
 have e:(fun j=>joinI 1 f (128*0+j))=fun j=>(j1 g j:Int):=funext fun j=>by
  rw [show 128*0+j=j by omega]
  unfold joinI j1 endI
  by_cases h:j<1
  ·rw [if_pos h,if_pos h,hf j h]
  rw [if_neg h,if_neg h]
  by_cases h1:j=1
  ·rw [if_pos (by omega),if_pos h1];rfl
  rw [if_neg (by omega),if_neg h1]
  have hz:zerI 1=110:=by decide
  rw [hz]
  by_cases h2:j<120
  ·rw [if_pos (by omega),if_pos h2];rfl
  rw [if_neg (by omega),if_neg h2,show j-1-(9+110)=j-120 by omega]
  show (8:Int) / 2 ^ _ % 256=_
  simp
 rw [e]
theorem dig_x {f:Nat→Int} (hf:f 0=120):sumI 1 f 0=164:=by
 rw [sum1 (g:=fun _=>120) (fun j hj=>by obtain rfl:j=0:=(by omega);exact hf)]
 unfold outI
 rw [shaN_ok (b:=j1 (fun _=>120)) (x0:=4224919457158171941) (x1:=14346611662827890095) (x2:=6201561423268584044) (x3:=6009008103598320794) (x4:=8081661584715593228) (x5:=1548358649572631600) (x6:=10708572106813221658) (x7:=2969789940039998697) (by decide +kernel) (0 / 8) (by decide)]
 decide +kernel
theorem dig_y {f:Nat→Int} (hf:f 0=121):sumI 1 f 0=18:=by
 rw [sum1 (g:=fun _=>121) (fun j hj=>by obtain rfl:j=0:=(by omega);exact hf)]
 unfold outI
 rw [shaN_ok (b:=j1 (fun _=>121)) (x0:=12110567580156873026) (x1:=7908908216106403574) (x2:=9024003998391421124) (x3:=2808699825631452589) (x4:=15156461130634620185) (x5:=6889465665378316415) (x6:=8154614319987338879) (x7:=8750847790265417969) (by decide +kernel) (0 / 8) (by decide)]
 decide +kernel
end Sh
namespace Go.Proofs.YtnopjabcdloepaaGreatDoor.Rc
open Go Go.RowKit
theorem sm_ne:smL [120]≠smL [121]:=fun h=>by
 have ex:gB (smL [120]) 0=164:=(fL_get 64 _ 0 (by decide)).trans (Sh.dig_x rfl)
 have ey:gB (smL [121]) 0=18:=(fL_get 64 _ 0 (by decide)).trans (Sh.dig_y rfl)
 rw [h,ey] at ex
 exact absurd ex (by decide)
theorem no_clash {T:List TxV} (h:∀ (k:Nat) (x y:TxV),T[k]?=some y→fsT (T.take k) (smL y.xs)=some x→x.xs=y.xs) {w w':World} {e:Ending} (hp:PostCh T w e w'):e=.returned (.tuple #[.slice none 0 0,.slice none 0 0,.bool false])∧Below w.heap.size w w':=by
 rcases hp with ⟨k,x,y,q1,d1,q2,d2,-,h1,h2,h3,-,-,-,-⟩ | ⟨he,-,hb⟩
 ·exact absurd (h k x y h1 h2) h3
 exact ⟨he,hb⟩
theorem clash3 (q1 q2 q3:Option Addr) (c1 c2 c3:Nat):∀ (k:Nat) (x y:TxV),[(⟨q1,c1,[120]⟩:TxV),⟨q2,c2,[120]⟩,⟨q3,c3,[121]⟩][k]?=some y→fsT ([(⟨q1,c1,[120]⟩:TxV),⟨q2,c2,[120]⟩,⟨q3,c3,[121]⟩].take k) (smL y.xs)=some x→x.xs=y.xs:=fun k x y hk hf=>by
 obtain ⟨hs,hm⟩:=fsT_sum hf
 match k,hk with
 | 0,hk=>simp at hm
 | 1,hk =>
  obtain rfl:_=y:=by simpa using hk
  obtain rfl:x=_:=by simpa using hm
  rfl
 | 2,hk =>
  obtain rfl:_=y:=by simpa using hk
  have hm':x=⟨q1,c1,[120]⟩∨x=⟨q2,c2,[120]⟩:=by simpa using hm
  rcases hm' with rfl | rfl
  ·exact absurd hs sm_ne
  exact absurd hs sm_ne
 | k+3,hk=>simp at hk
def fB4 (Lg:List RecD) (r:RecD):Bool:=decide (1≤r.cl∧r.cl≤4)&&(decide (ckR (gB (fL 32 (kyB r.cl.toNat))) r=0) && !hasT recT Lg (recT r))
theorem Gr4.fg {L:List GrV} (h:Gr4 L) (Lg:List RecD) (r:RecD):fgB L Lg r=fB4 Lg r:=by
 unfold fgB fB4
 by_cases h1:1≤r.cl∧r.cl≤4
 ·obtain ⟨x,hx,hp,-,-⟩:=h.f (t:=r.cl.toNat) (by omega) (by omega)
  rw [show ((r.cl.toNat:Nat):Int)=r.cl by omega] at hx
  rw [hx,decide_eq_true h1,Bool.true_and]
  show (decide (ckR (gB x.pub) r=0)&&_)=_
  rw [hp]
 rw [h.n (by omega),decide_eq_false h1,Bool.false_and]
theorem Gr4.ok {L:List GrV} (h:Gr4 L):∀ x∈L,x.pub.length=32∧BR x.pub:=fun x hx=>by
 obtain ⟨j,hj⟩:=List.mem_iff_getElem?.1 hx
 obtain ⟨-,e,-⟩:=h.2 j x hj
 rw [e]
 exact ⟨fL_len _ _,fL_br (key_byt _)⟩
theorem rec0_ok:rec0.ok:=⟨by decide,by decide,by decide,(fun x hx=>by cases hx),(fun x hx=>by cases hx)⟩
def foR (Lg rs:List RecD):RecD:=((rs.find? (fB4 Lg)).getD rec0)
theorem Forged_c (pg:Option Addr) (cg:Nat) (LG:List GrV) (h4:Gr4 LG) (B gb:Nat) (S:List Nat) (Lg:List RecD) (M:List RootD) (p:Option Addr) (n c:Nat) (rs:List RecD) (hn:n=rs.length) (hn2:n≤1000000) (hok:∀ r∈rs,r.ok) (w:World) (hG:GsAt w pg LG) (hGS:GS B w S gb Lg M) (hR:RecsC [] w p rs) (hS:ShP w) (hCv:CvP w) :
  Calls Tryz.prog 73 #[.slice pg 4 cg,.pointer (some ⟨gb,0,none⟩),.slice p n c] w (PostFo (foR Lg rs) (rs.find? (fB4 Lg)).isSome w):=by
 have hB:=hS.lt
 have hl:4=LG.length:=h4.1.symm
 have hix:=fun w1 (hb:Below w.heap.size w w1)=>ixR_c (.agg #[.pointer (some ⟨gb,0,none⟩),.slice pg 4 cg,.slice none 0 0,.slice none 0 0]) (fB4 Lg) p n c rs hn hn2 w1 (hR.ext (.below hb)) (fun r hr w2 hb2 p1 c1 p2 c2 p3 c3 hrec=>by
  have hb3:=hb.trans (hb2.mono hb.size)
  have:=forged_c pg 4 cg LG hl (by decide) h4.ok B gb S Lg M r (hok r hr) p1 c1 p2 c2 p3 c3 hrec.2.2.2.2 w2 (hG.below hb3) (hGS.below hb3) hrec.1.d hrec.2.1.b hrec.2.2.1.b (hS.below hb3 hB) (hCv.below hb3 hCv.lt)
  rw [h4.fg] at this
  exact this)
 have hrt:=fun w1 (hb:Below w.heap.size w w1)=>(gRight_c pg 4 cg LG hl (by decide) w1 (hG.below hb)).mono fun e w' k=>(⟨by rw [k.1,h4.right],k.2⟩:PostV (.bool true) w1 e w')
 unfold foR
 cases hf:rs.find? (fB4 Lg) with
 | some r =>
  exact Forged_x gb pg 4 cg p n c r (hok r (List.mem_of_find?_eq_some hf)) true w hrt (fun w1 hb=>(first_s _ (fB4 Lg) p n c rs hn r hf w1 (hR.ext (.below hb)) (fun w2 hb2=>hix w2 (hb.trans (hb2.mono hb.size)))).mono fun e w' ⟨p1,c1,p2,c2,p3,c3,he,⟨k1,k2,k3,_,_⟩,hb'⟩=>⟨p1,c1,p2,c2,p3,c3,he,⟨k1.d,k2.b,k3.b⟩,hb'⟩)
 | none =>
  exact Forged_x gb pg 4 cg p n c rec0 rec0_ok false w hrt (fun w1 hb=>(first_n _ (fB4 Lg) p n c rs hf w1 (fun w2 hb2=>hix w2 (hb.trans (hb2.mono hb.size)))).mono fun e w' ⟨he,hb'⟩=>⟨none,0,none,0,none,0,he,⟨⟨rfl,fun h=>absurd h (by decide)⟩,(fun h=>absurd h (by decide)),(fun h=>absurd h (by decide))⟩,hb'⟩)
end Go.Proofs.YtnopjabcdloepaaGreatDoor.Rc

namespace Go.Proofs.YtnopjabcdloepaaGreatDoor.Rc
open Go Go.RowKit
def ka:ByteArray:=⟨#[107]⟩
def ra0:RecD:=⟨ka,1,1,0,[],false,[],[]⟩
def ra1:RecD:=⟨ka,1,1,0,[],false,[],fL 64 (Sh.sigI (sdB 1) (tP ka 1 1 0 [] false []))⟩
theorem ra_sh:shB ka.size 1 1 0 [] false 0=true:=by decide +kernel
theorem ra0_ok:ra0.ok:=⟨by decide,by decide,by decide,(fun x hx=>by cases hx),(fun x hx=>by cases hx)⟩
theorem ra1_ok:ra1.ok:=⟨by decide,by decide,by show (fL 64 _).length≤100000;rw [fL_len];decide,(fun x hx=>by cases hx),fL_br (sig_byt _ _)⟩
theorem ra_txt:recT ra1≠[]:=by
 show txtL ka 1 1 0 [] false []≠[]
 decide +kernel
theorem ra_ck:ckR (gB (fL 32 (kyB 1))) ra1=0:=by
 unfold ckR rightR
 rw [show shB ra1.k.size ra1.cl ra1.sq ra1.n ra1.ds ra1.gone ra1.vs.length=true from ra_sh,show ra1.ss.length=64 from fL_len _ _]
 rw [if_pos (by decide),if_pos]
 exact Sh.ver_sig (sdB 1) (fun j hj=>fL_get 32 _ j hj) (fun j hj=>fL_get 64 _ j hj) rfl (fun _ _=>rfl)
theorem ra_fg0:fB4 [] ra1=true:=by
 unfold fB4
 rw [show ra1.cl.toNat=1 from rfl,ra_ck]
 decide +kernel
theorem ra_has:hasT recT [ra1] (recT ra1)=true:=by simp [hasT]
theorem ra_fg1:fB4 [ra1] ra1=false:=by
 unfold fB4
 rw [ra_has]
 simp
theorem ra_f0:[ra1].find? (fB4 [])=some ra1:=List.find?_cons_of_pos ra_fg0
theorem ra_f1:[ra1].find? (fB4 [ra1])=none:=by simp [ra_fg1]
theorem ra_puts:putsT recT [] [ra1]=[ra1]:=by
 show putT recT [] ra1=[ra1]
 unfold putT
 rw [if_neg]
 ·rfl
 intro h
 rcases h with h | h
 ·exact ra_txt h
 simp [hasT] at h
theorem recs_one' {w:World} {g:Nat} {r:RecD} {p1:Option Addr} {c1:Nat} {p2:Option Addr} {c2:Nat} {p3:Option Addr} {c3:Nat} {S:List Nat} (h:Blk w g 45 #[.string r.k,.int .i64 r.cl,.int .i64 r.sq,.slice p1 r.n c1,.bool r.gone,.slice p2 r.vs.length c2,.slice p3 r.ss.length c3]) (hg:g ∉ S) (hr:RecC S w (recV r p1 c1 p2 c2 p3 c3) r):RecsC S w (some ⟨g,0,none⟩) [r]:=fun _=>⟨g,0,rfl,h.lt,hg,fun i x hx=>by
 match i,hx with
 | 0,hx =>
  obtain rfl:r=x:=by simpa using hx
  exact ⟨_,hr,fun j u hu=>by
   rw [show 0+0*7+j=j by omega,h.cell j]
   simpa [cellsV,recV] using hu⟩
 | i+1,hx=>simp at hx⟩
end Go.Proofs.YtnopjabcdloepaaGreatDoor.Rc
