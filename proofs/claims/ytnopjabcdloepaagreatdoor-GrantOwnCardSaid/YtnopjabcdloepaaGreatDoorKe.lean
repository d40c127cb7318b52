import Derived.Test.YtnopjabcdloepaaGreatDoorKd
import Derived.Maps.Own
import Derived.Maps.OwnSet
import Derived.Maps.OwnOps
import Derived.Maps.AppendAt
import Derived.Test.YtnopjabcdloepaaGreatDoorZc
namespace Go.Proofs.YtnopjabcdloepaaGreatDoor.Rc
open Go.RowKit
def recT (r:RecD):List Int:=txtL r.k r.cl r.sq r.n r.ds r.gone r.vs
def rootT (r:RootD):List Int:=rootTL r.r r.h r.q r.sum
theorem br_app {xs ys:List Int} (h1:BR xs) (h2:BR ys):BR (xs++ys):=fun x hx=>(List.mem_append.1 hx).elim (h1 x) (h2 x)
theorem br_nil:BR []:=fun x hx=>by cases hx
theorem br_num (n:Int):BR (numL n):=fun x hx=>by
 obtain ⟨j,_,rfl⟩:=List.mem_map.1 hx
 unfold nb
 omega
theorem br_flat {l:List (List Int)} (h:∀ x∈l,BR x):BR l.flatten:=fun x hx=>by
 obtain ⟨y,hy,hxy⟩:=List.mem_flatten.1 hx
 exact h y hy x hxy
theorem br_key (k:ByteArray):BR (keyL k):=fun x hx=>by
 obtain ⟨b,_,rfl⟩:=List.mem_map.1 hx
 have:=b.toNat_lt
 omega
theorem br_len {xs:List Int} (h:BR xs):BR (lenL xs):=br_app (br_num _) h
theorem br_one (x:Int) (h:0≤x∧x<256):BR [x]:=fun y hy=>by
 obtain rfl:y=x:=by simpa using hy
 exact h
theorem br_q (k:ByteArray) (cl sq:Int) (n1:Nat) (ds:List Int):∀ m,∀ x∈qL k cl sq n1 ds m,BR x
 | 0=>fun x hx=>by
  simp only [qL,List.mem_cons,List.not_mem_nil,or_false] at hx
  rcases hx with rfl | rfl | rfl | rfl | rfl
  ·exact br_one 1 (by decide)
  ·exact br_len (br_key k)
  ·exact br_num _
  ·exact br_num _
  exact br_num _
 | m+1=>fun x hx=>by
  simp only [qL,List.mem_append,List.mem_cons,List.not_mem_nil,or_false] at hx
  rcases hx with hx | rfl | rfl
  ·exact br_q k cl sq n1 ds m x hx
  ·exact br_num _
  exact br_num _
theorem br_txt (k:ByteArray) (cl sq:Int) (n:Nat) (ds:List Int) (gone:Bool) (vs:List Int) (h:BR vs):BR (txtL k cl sq n ds gone vs):=by
 unfold txtL
 split
 ·refine br_flat fun x hx=>?_
  rcases List.mem_append.1 hx with hx | hx
  ·exact br_q k cl sq n ds n x hx
  simp only [List.mem_cons,List.not_mem_nil,or_false] at hx
  rcases hx with rfl | rfl
  ·exact br_one _ (by unfold goneI;split <;> decide)
  exact br_len h
 exact br_nil
theorem br_rec {r:RecD} (h:r.ok):BR (recT r):=br_txt _ _ _ _ _ _ _ h.2.2.2.1
theorem rec_len (r:RecD) (h:r.ok):(recT r).length≤2000000:=by
 unfold recT txtL
 split
 ·rename_i hs
  have:=shB_true hs
  unfold textL
  rw [List.flatten_append,List.length_append,qL_flat]
  have h1:=h.1
  simp only [List.flatten_cons,List.flatten_nil,List.append_nil,List.length_append,List.length_cons,List.length_nil,lenL,numL_len]
  omega
 simp
def klit (xs:List Int):Lit:=.string (strOfNums xs).data.toList
theorem klit_inj {xs ys:List Int} (hx:BR xs) (hy:BR ys) (h:klit xs=klit ys):xs=ys:=by
 injection h with h
 rw [strOfNums_data,strOfNums_data] at h
 have hl:xs.length=ys.length:=by simpa using congrArg List.length h
 refine List.ext_getElem hl fun i h1 h2=>?_
 have h3:(xs.map fun n=>UInt8.ofNat n.toNat)[i]?=(ys.map fun n=>UInt8.ofNat n.toNat)[i]?:=by rw [h]
 rw [List.getElem?_map,List.getElem?_map,List.getElem?_eq_getElem h1,List.getElem?_eq_getElem h2] at h3
 have h4:UInt8.ofNat xs[i].toNat=UInt8.ofNat ys[i].toNat:=by simpa using h3
 have h5:=congrArg UInt8.toNat h4
 have a1:=hx xs[i] (List.getElem_mem h1)
 have a2:=hy ys[i] (List.getElem_mem h2)
 simp only [UInt8.toNat_ofNat'] at h5
 omega
theorem law:Maps.Keyed Tryz.prog 9:=Maps.string_keyed str_under
theorem klit_key (xs:List Int) (h:xs.length≤2000000):keyOf Tryz.prog 9 (.string (strOfNums xs))=some (klit xs):=WideMaps.keyOf_string_mk str_under (by rw [strOfNums_size];unfold maxLen;omega)
theorem conv_str (w:World) (p:Option Addr) (n c:Nat) (xs:List Int) (hn:n=xs.length) (h:BytesL w p xs):(convert 22 9 (.slice p n c)).run Tryz.prog w=.ok (.string (strOfNums xs)) w:=by
 rcases Nat.eq_zero_or_pos xs.length with h0 | h0
 ·have:xs=[]:=List.eq_nil_of_length_eq_zero h0
  subst this
  subst hn
  cases p with
  | none=>exact run_convert_bytes_nil w 22 5 bs_under u8_under 0 c 9 str_under
  | some a=>exact run_convert_bytes_back w 22 9 5 a c [] bs_under u8_under str_under (fun j hj=>absurd hj (by simp))
 obtain ⟨g,o,rfl,_,hc⟩:=h h0
 exact run_convert_bytes_arg w 22 5 bs_under u8_under g o n c xs hn.symm (fun i hi=>hc i (by omega)) 9 str_under
def hasT {α:Type} (T:α→List Int) (L:List α) (t:List Int):Bool:=L.any fun r=>decide (T r=t)
def putT {α:Type} (T:α→List Int) (L:List α) (x:α):List α:=if T x=[]∨hasT T L (T x)=true then L else L++[x]
def putsT {α:Type} (T:α→List Int) (L:List α) (l:List α):List α:=l.foldl (putT T) L
def RowsO {α:Type} (O:Nat→World→Value→α→List Nat→Prop) (B:Nat) (w:World) (vs:List Value) (L:List α) (bls:List (List Nat)):Prop :=
 vs.length=L.length∧bls.length=L.length∧∀ (i:Nat) (v:Value) (r:α) (bl:List Nat),vs[i]?=some v→L[i]?=some r→bls[i]?=some bl→O B w v r bl
def cellsV (v:Value):List Value:=match v with | .agg cs=>cs.toList | _=>[]
def Book {α:Type} (O:Nat→World→Value→α→List Nat→Prop) (T:α→List Int) (ok:α→Prop) (ty:TypeId) (k:Nat) (B:Nat) (w:World) (S:List Nat) (lv:Value) (mb:Nat) (L:List α):Prop :=
 ∃ vs bls D,w.ownsRow B ty k lv L.length (vs.flatMap cellsV)∧RowsO O B w vs L bls∧(∀ g,g∈bls.flatten→g ∉ S)∧(∀ g,lv.ownBlock=some g→g∈S) ∧
  w.ownsMap (H:=Unit) Tryz.prog 9 (plainElem Tryz.prog 3) mb L.length D∧mb∈S∧(∀ xs,BR xs→Maps.has D (klit xs)=hasT T L xs)∧∀ r,r∈L→ok r∧T r≠[]
theorem hasT_nil {α:Type} {T:α→List Int} {L:List α} (h:∀ r,r∈L→T r≠[]):hasT T L []=false:=by
 unfold hasT
 rw [List.any_eq_false]
 intro r hr
 simpa using h r hr
end Go.Proofs.YtnopjabcdloepaaGreatDoor.Rc

namespace Go.Proofs.YtnopjabcdloepaaGreatDoor.Rc
open Go.RowKit
def ghC (l1:Value) (m1:Nat) (l2:Value) (m2:Nat):Array Value:=#[l1,.map (some m1),.func (.func 64) #[] #[],.func (.func 147) #[] #[],l2,.map (some m2),.func (.func 26) #[] #[],.func (.func 149) #[] #[]]
theorem blk8 {w:World} {g:Nat} {t:TypeId} {x0 x1 x2 x3 x4 x5 x6 x7:Value} (h:Blk w g t #[x0,x1,x2,x3,x4,x5,x6,x7]):w.cell? ⟨g,0,none⟩=some x0∧w.cell? ⟨g,1,none⟩=some x1∧w.cell? ⟨g,2,none⟩=some x2∧w.cell? ⟨g,3,none⟩=some x3∧w.cell? ⟨g,4,none⟩=some x4∧w.cell? ⟨g,5,none⟩=some x5∧w.cell? ⟨g,6,none⟩=some x6∧w.cell? ⟨g,7,none⟩=some x7:=⟨h.cell 0,h.cell 1,h.cell 2,h.cell 3,h.cell 4,h.cell 5,h.cell 6,h.cell 7⟩
theorem zeroI (w:World):(zeroValue 3).run Tryz.prog w=.ok (.int .i64 0) w:=by kernel_rfl
theorem map_under:Tryz.prog.underlying 179=some (.map 9 3):=by kernel_rfl
theorem neqmap (m:Nat) (w:World):(binOp .neq 179 (.map (some m)) (.map none)).run Tryz.prog w=.ok (.bool true) w:=by kernel_rfl
def Tup (h:Bool):Value→World→Prop:=fun v _=>∃ c:Int,v=.tuple #[.int .i64 c,.bool h]
theorem sta_tup (h:Bool):Sta (Tup h):=fun _ _ _ x _=>x
def AnyI:Value→World→Prop:=fun v _=>∃ c:Int,v=.int .i64 c
theorem sta_anyI:Sta AnyI:=fun _ _ _ x _=>x
set_option maxHeartbeats 1000000 in
theorem knownRec_c (gb:Nat) (l1:Value) (m1:Nat) (l2:Value) (m2:Nat) (w:World) (hG:Blk w gb 191 (ghC l1 m1 l2 m2)) :
  Calls Tryz.prog 237 #[.pointer (some ⟨gb,0,none⟩)] w fun e w'=>e=.returned (.bool true)∧Below w.heap.size w w':=by
 have c1:=(blk8 hG).2.1
 have hnm:=neqmap
 go_enter Tryz.func237,Tryz.ntmps237
 go_wp2
 go_returns
 exact ⟨rfl,Below.refl _ _⟩
def hsReL (k:ByteArray) (cl sq:Int) (n:Nat) (gone:Bool) (vs ss:List Int) (p1:Option Addr) (c1:Nat) (p2:Option Addr) (c2:Nat) (p3:Option Addr) (c3:Nat) (gb m1:Nat) (X:List Int) (H:Bool):List (Value→World→Prop):=[
 Eq1 (.pointer (some ⟨gb,0,none⟩)),
 Eq1 (.pointer (some ⟨gb,0,none⟩)),
 Eq1 (.pointer (some ⟨gb,1,none⟩)),
 Eq1 (.map (some m1)),
 Eq1 (.pointer (some ⟨gb,0,none⟩)),
 Eq1 (.pointer (some ⟨gb,0,none⟩)),
 Eq1 (.pointer (some ⟨gb,2,none⟩)),
 Eq1 (.func (.func 64) #[] #[]),
 Eq1 (.agg #[.string k,.int .i64 cl,.int .i64 sq,.slice p1 n c1,.bool gone,.slice p2 vs.length c2,.slice p3 ss.length c3]),
 SlL X,
 Eq1 (.string (strOfNums X)),
 Tup H,
 Tup H,
 AnyI,
 Eq1 (.bool H),
 AnyI,
 Eq1 (.bool H)]
theorem hsReS (k:ByteArray) (cl sq:Int) (n:Nat) (gone:Bool) (vs ss:List Int) (p1:Option Addr) (c1:Nat) (p2:Option Addr) (c2:Nat) (p3:Option Addr) (c3:Nat) (gb m1:Nat) (X:List Int) (H:Bool):∀ j x' q q',(hsReL k cl sq n gone vs ss p1 c1 p2 c2 p3 c3 gb m1 X H).getD j (fun _ _=>True) x' q→Below q.heap.size q q'→(hsReL k cl sq n gone vs ss p1 c1 p2 c2 p3 c3 gb m1 X H).getD j (fun _ _=>True) x' q':=by
 refine sta_all _ ?_
 simp only [hsReL,List.mem_cons,forall_eq_or_imp,List.not_mem_nil,false_implies,implies_true,and_true]
 exact ⟨sta_eq _,sta_eq _,sta_eq _,sta_eq _,sta_eq _,sta_eq _,sta_eq _,sta_eq _,sta_eq _,sta_slL _,sta_eq _,sta_tup _,sta_tup _,sta_anyI,sta_eq _,sta_anyI,sta_eq _⟩
set_option maxRecDepth 20000 in
set_option maxHeartbeats 8000000 in
theorem hasRec_d (gb:Nat) (l1:Value) (m1:Nat) (l2:Value) (m2:Nat) (r:RecD) (p1:Option Addr) (c1:Nat) (p2:Option Addr) (c2:Nat) (p3:Option Addr) (c3:Nat) (hok:r.ok) (w:World) (hG:Blk w gb 191 (ghC l1 m1 l2 m2)) (h1:DotsL w p1 r.n r.ds) (h2:BytesL w p2 r.vs) (N:Nat) (D:DataW Unit) (hmap:w.ownsMap (H:=Unit) Tryz.prog 9 (plainElem Tryz.prog 3) m1 N D) :
  Calls Tryz.prog 168 #[.pointer (some ⟨gb,0,none⟩),recV r p1 c1 p2 c2 p3 c3] w fun e w'=>e=.returned (.bool (Maps.has D (klit (recT r))))∧Below w.heap.size w w':=by
 have hct:=fun w1 (hb:Below w.heap.size w w1)=>recText_c r.k r.cl r.sq p1 r.n c1 r.gone p2 r.vs.length c2 p3 r.ss.length c3 r.ds r.vs (by have:=hok.1;omega) rfl w1 (h1.below hb) (h2.below hb)
 have hkey:=klit_key (recT r) (rec_len r hok)
 change ∀ w1,Below w.heap.size w w1→Calls _ _ _ w1 (PostL (recT r) w1) at hct
 obtain ⟨X,hX⟩:∃ X,X=recT r:=⟨_,rfl⟩
 rw [← hX] at hkey hct ⊢
 clear hX hok
 obtain ⟨k,cl,sq,n,ds,gone,vs,ss⟩:=r
 dsimp only at hct h1 h2
 unfold recV
 dsimp only
 obtain ⟨H,hH⟩:∃ H,H=Maps.has D (klit X):=⟨_,rfl⟩
 rw [← hH]
 have hkn:=fun w1 (hb:Below w.heap.size w w1)=>knownRec_c gb l1 m1 l2 m2 w1 (hG.below hb)
 have hmm:=fun w1 (hb:Below w.heap.size w w1)=>hmap.kept (w':=w1) (row:=none) ⟨hb.os,hb.tape,hb.output,hb.size,fun k hk _=>hb.block k hk⟩ (by simp)
 replace hct:=Lib.hid hct
 replace hkey:=Lib.hid hkey
 replace hH:=Lib.hid hH
 replace hkn:=Lib.hid hkn
 replace hmm:=Lib.hid hmm
 clear h1 h2 hmap
 unfold ghC at hG
 go_enter Tryz.func168,Tryz.ntmps168
 go_wp2_with fail
 refine calls_at (fun W1 hW=>?_)
 have hb1:Below w.heap.size w W1:=by rw [hW];go_grown
 have hX:Blk W1 w.heap.size 45 #[.string k,.int .i64 cl,.int .i64 sq,.slice p1 n c1,.bool gone,.slice p2 vs.length c2,.slice p3 ss.length c3]:=by rw [hW];exact Blk.new _ _ _
 clear hW
 replace hG:=hG.below hb1
 refine (hkn.out _ hb1).mono ?_
 rintro e W0 ⟨rfl,hb2⟩
 replace hG:=hG.below hb2
 replace hX:=hX.below hb2
 have hb0:=hb1.trans (hb2.mono hb1.size)
 clear hb1 hb2 hkn
 replace hct:Hid (∀ w1,Below W0.heap.size W0 w1→_):=Lib.hid fun w1 hb=>hct.out w1 (hb0.trans (hb.mono hb0.size))
 replace hmm:Hid (∀ w1,Below W0.heap.size W0 w1→_):=Lib.hid fun w1 hb=>hmm.out w1 (hb0.trans (hb.mono hb0.size))
 go_wp2_with fail
 refine wp_region_grow5 17 (fun k=>(Nat.ble 5 k&&Nat.ble k 6)||(Nat.ble 10 k&&Nat.ble k 24)) _ [] (fun a b=>Below a.heap.size a b) (Below.refl _ _).drew below_tr (fun j x' q=>(hsReL k cl sq n gone vs ss p1 c1 p2 c2 p3 c3 gb m1 X H).getD j (fun _ _=>True) x' q) (fun _=>false) (fun f=>#[.pointer (some ⟨gb,0,none⟩),.agg #[.string k,.int .i64 cl,.int .i64 sq,.slice p1 n c1,.bool gone,.slice p2 vs.length c2,.slice p3 ss.length c3],undef,.pointer (some ⟨w.heap.size,0,none⟩),.bool false,f 5,f 6,.pointer (some ⟨gb,0,none⟩),.bool true,.bool false,f 10,f 11,f 12,f 13,f 14,f 15,f 16,f 17,f 18,f 19,f 20,f 21,f 22,f 23,f 24,undef]) (fun f=>rfl) (by kernel_rfl) (by kernel_rfl) (by kernel_rfl) (by kernel_rfl) (by kernel_rfl) (hsReS _ _ _ _ _ _ _ _ _ _ _ _ _ _ _ _ _) (fun _ _ _ h=>by cases h) ?_ ?_
 ·refine steps5_cons ?_ ?_
  ·intro f w1 hb hd Q hK
   clear hd
   have hK:=Lib.hid hK
   go_wp2
   exact hK.out _ _ rfl (.refl _ _) nof
  refine steps5_cons ?_ ?_
  ·intro f w1 hb hd Q hK
   have e11:f 11=.pointer (some ⟨gb,0,none⟩):=hd.1 rfl
   clear hd
   simp only [e11] at hK
   have hK:=Lib.hid hK
   go_wp2
   exact hK.out _ _ rfl (.refl _ _) nof
  refine steps5_cons ?_ ?_
  ·intro f w1 hb hd Q hK
   have e12:f 12=.pointer (some ⟨gb,0,none⟩):=hd.1 rfl
   clear hd
   simp only [e12] at hK
   have hK:=Lib.hid hK
   go_wp2
   exact hK.out _ _ rfl (.refl _ _) nof
  refine steps5_cons ?_ ?_
  ·intro f w1 hb hd Q hK
   have e13:f 13=.pointer (some ⟨gb,1,none⟩):=hd.1 rfl
   clear hd
   simp only [e13] at hK
   have hK:=Lib.hid hK
   have c0:=(hG.below hb).cell 1
   simp only [List.getElem?_toArray,List.getElem?_cons_zero,List.getElem?_cons_succ] at c0
   go_wp2
   exact hK.out _ _ rfl (.refl _ _) nof
  refine steps5_cons ?_ ?_
  ·intro f w1 hb hd Q hK
   clear hd
   have hK:=Lib.hid hK
   go_wp2
   exact hK.out _ _ rfl (.refl _ _) nof
  refine steps5_cons ?_ ?_
  ·intro f w1 hb hd Q hK
   have e15:f 15=.pointer (some ⟨gb,0,none⟩):=hd.1 rfl
   clear hd
   simp only [e15] at hK
   have hK:=Lib.hid hK
   go_wp2
   exact hK.out _ _ rfl (.refl _ _) nof
  refine steps5_cons ?_ ?_
  ·intro f w1 hb hd Q hK
   have e16:f 16=.pointer (some ⟨gb,0,none⟩):=hd.1 rfl
   clear hd
   simp only [e16] at hK
   have hK:=Lib.hid hK
   go_wp2
   exact hK.out _ _ rfl (.refl _ _) nof
  refine steps5_cons ?_ ?_
  ·intro f w1 hb hd Q hK
   have e17:f 17=.pointer (some ⟨gb,2,none⟩):=hd.1 rfl
   clear hd
   simp only [e17] at hK
   have hK:=Lib.hid hK
   have c0:=(hG.below hb).cell 2
   simp only [List.getElem?_toArray,List.getElem?_cons_zero,List.getElem?_cons_succ] at c0
   go_wp2
   exact hK.out _ _ rfl (.refl _ _) nof
  refine steps5_cons ?_ ?_
  ·intro f w1 hb hd Q hK
   clear hd
   have hK:=Lib.hid hK
   obtain ⟨c0,c1,c2,c3,c4,c5,c6⟩:=blk7 (hX.below hb)
   go_wp2
   exact hK.out _ _ rfl (.refl _ _) nof
  refine steps5_cons ?_ ?_
  ·intro f w1 hb hd Q hK
   have e18:f 18=.func (.func 64) #[] #[]:=hd.1 rfl
   have e19:f 19=.agg #[.string k,.int .i64 cl,.int .i64 sq,.slice p1 n c1,.bool gone,.slice p2 vs.length c2,.slice p3 ss.length c3]:=hd.2.1 rfl
   clear hd
   simp only [e18,e19] at hK
   have hK:=Lib.hid hK
   go_wp2_with fail
   refine (hct.out _ hb).mono ?_
   rintro e w2 ⟨r,m,c2,rfl,hm,hR,hb2,-⟩
   replace hm:=Lib.hid hm
   go_wp2
   exact hK.out _ _ ⟨_,_,_,rfl,hm.out,hR⟩ hb2 nof
  refine steps5_cons ?_ ?_
  ·intro f w1 hb hd Q hK
   obtain ⟨p20,n20,c20,e20,l20,b20⟩:=(hd.1 rfl:SlL X (f 20) w1)
   replace l20:=Lib.hid l20
   replace b20:=Lib.hid b20
   clear hd
   simp only [e20] at hK
   have hK:=Lib.hid hK
   have kc:=conv_str w1 p20 n20 c20 X l20.out b20.out
   go_wp2
   exact hK.out _ _ rfl (.refl _ _) nof
  refine steps5_cons ?_ ?_
  ·intro f w1 hb hd Q hK
   have e14:f 14=.map (some m1):=hd.1 rfl
   have e21:f 21=.string (strOfNums X):=hd.2.1 rfl
   clear hd
   simp only [e14,e21] at hK
   have hK:=Lib.hid hK
   go_wp2_with (at_lookup;refine wpList_lookup_own_ok_int _ rfl _ _ 179 rfl 9 3 .i64 law map_under int_under (zeroI _) m1 N D e14 (hmm.out _ hb) _ _ e21 hkey.out ?_;intro c _ _;rw [← hH.out])
   exact hK.out _ _ ⟨_,rfl⟩ (.refl _ _) nof
  refine steps5_cons ?_ ?_
  ·intro f w1 hb hd Q hK
   obtain ⟨x22,e22⟩:=(hd.1 rfl:Tup H (f 22) w1)
   clear hd
   simp only [e22] at hK
   have hK:=Lib.hid hK
   go_wp2
   exact hK.out _ _ ⟨_,rfl⟩ (.refl _ _) nof
  refine steps5_cons ?_ ?_
  ·intro f w1 hb hd Q hK
   obtain ⟨x10,e10⟩:=(hd.1 rfl:Tup H (f 10) w1)
   clear hd
   simp only [e10] at hK
   have hK:=Lib.hid hK
   go_wp2
   exact hK.out _ _ ⟨_,rfl⟩ (.refl _ _) nof
  refine steps5_cons ?_ ?_
  ·intro f w1 hb hd Q hK
   obtain ⟨x10,e10⟩:=(hd.1 rfl:Tup H (f 10) w1)
   clear hd
   simp only [e10] at hK
   have hK:=Lib.hid hK
   go_wp2
   exact hK.out _ _ rfl (.refl _ _) nof
  refine steps5_cons ?_ ?_
  ·intro f w1 hb hd Q hK
   obtain ⟨x23,e23⟩:=(hd.1 rfl:AnyI (f 23) w1)
   clear hd
   simp only [e23] at hK
   have hK:=Lib.hid hK
   go_wp2
   exact hK.out _ _ ⟨_,rfl⟩ (.refl _ _) nof
  refine steps5_cons ?_ ?_
  ·intro f w1 hb hd Q hK
   have e24:f 24=.bool H:=hd.1 rfl
   clear hd
   simp only [e24] at hK
   have hK:=Lib.hid hK
   go_wp2
   exact hK.out _ _ rfl (.refl _ _) nof
  trivial
 intro f w1 hb hf hne
 refine wpList_nil ?_
 have d6:f 6=.bool H:=hf 16 _ _ (by decide) rfl rfl
 simp only [d6]
 clear hf hne hct hmm
 go_wp2
 go_returns
 exact ⟨rfl,hb0.trans (hb.mono hb0.size)⟩
end Go.Proofs.YtnopjabcdloepaaGreatDoor.Rc

namespace Go.Proofs.YtnopjabcdloepaaGreatDoor.Rc
open Go.RowKit
def ThF {α:Type} (V:List Nat→World→Value→α→Prop) (k:Nat) (S:List Nat) (w:World) (p:Option Addr) (rs:List α):Prop :=
 0<rs.length→∃ g o,p=some ⟨g,o,none⟩∧g<w.heap.size∧g ∉ S∧∀ (i:Nat) (r:α),rs[i]?=some r→∃ v,V S w v r∧∀ (j:Nat) (u:Value),(cellsV v)[j]?=some u→w.cell? ⟨g,o+i*k+j,none⟩=some u
theorem ThF.ext {α:Type} {V:List Nat→World→Value→α→Prop} {k:Nat} {S S':List Nat} {w w':World} {p:Option Addr} {rs:List α} (hV:∀ v r,V S w v r→V S' w' v r) (h:ThF V k S w p rs) (hb:Ext S w S' w'):ThF V k S' w' p rs:=fun hm=>by
 obtain ⟨g,o,e,hg,hS,hc⟩:=h hm
 obtain ⟨h1,h2,h3⟩:=hb.at hg hS
 refine ⟨g,o,e,h3,h2,fun i r hr=>?_⟩
 obtain ⟨v,hv,hj⟩:=hc i r hr
 exact ⟨v,hV v r hv,fun j u hu=>(World.cell?_of_block (w:=w) (a:=⟨g,o+i*k+j,none⟩) h1).trans (hj j u hu)⟩
def RecsF:=ThF RecF 7
structure Kept (C:List Nat) (w w':World):Prop where
 os:w'.os=w.os
 tape:w'.tape=w.tape
 output:w'.output=w.output
 size:w.heap.size≤w'.heap.size
 block:∀ k,k<w.heap.size→k ∉ C→w'.heap[k]?=w.heap[k]?
theorem Kept.below {w w':World} (h:Below w.heap.size w w') (C:List Nat):Kept C w w':=⟨h.os,h.tape,h.output,h.size,fun k hk _=>h.block k hk⟩
theorem Kept.grown {w w':World} {row:Option Nat} (h:w.grownBy w' row) {C:List Nat} (hC:∀ g,row=some g→g∈C):Kept C w w':=⟨h.os,h.tape,h.output,h.size,fun k hk hk2=>h.block k hk (fun e=>hk2 (hC k e.symm))⟩
theorem Kept.trans {C:List Nat} {a b c:World} (h:Kept C a b) (k:Kept C b c):Kept C a c:=⟨k.os.trans h.os,k.tape.trans h.tape,k.output.trans h.output,Nat.le_trans h.size k.size,fun j hj hC=>(k.block j (Nat.lt_of_lt_of_le hj h.size) hC).trans (h.block j hj hC)⟩
theorem Kept.ext {C S S':List Nat} {w w':World} (h:Kept C w w') (hC:∀ g,g∈C→g∈S∨w.heap.size≤g) (hS:∀ g,g∈S'→g∈S∨w.heap.size≤g):Ext S w S' w' :=
 ⟨h.os,h.tape,h.output,h.size,fun k hk hk2=>h.block k hk (fun hc=>(hC k hc).elim hk2 (fun h2=>by omega)),hS⟩
section
variable {α:Type} {O:Nat→World→Value→α→List Nat→Prop} {T:α→List Int} {ok:α→Prop} {ty:TypeId} {k B:Nat} {w w':World} {S S':List Nat} {lv:Value} {mb:Nat} {L:List α}
theorem Book.kept (hO:∀ w w' v r bl S S',O B w v r bl→Ext S w S' w'→(∀ g,g∈bl→g ∉ S)→O B w' v r bl) (hlt:∀ w v r bl,O B w v r bl→∀ g,g∈bl→g<w.heap.size) (h:Book O T ok ty k B w S lv mb L) {C:List Nat} (hk:Kept C w w') (hC:∀ g,g∈C→g∈S∨w.heap.size≤g)
  (h1:∀ g,lv.ownBlock=some g→g ∉ C) (h2:mb ∉ C) (hS:∀ g,g∈S'→g∈S∨w.heap.size≤g) (hS2:∀ g,g∈S→g∈S'):Book O T ok ty k B w' S' lv mb L:=by
 obtain ⟨vs,bls,D,a1,a2,a3,a4,a5,a6,a7,a8⟩:=h
 have hbl:∀ (i:Nat) (bl:List Nat),bls[i]?=some bl→∀ g,g∈bl→g∈bls.flatten:=fun i bl hi g hg=>List.mem_flatten.2 ⟨bl,List.mem_of_getElem? hi,hg⟩
 refine ⟨vs,bls,D,own_ext a1 (hk.ext (S:=C) (S':=C) (fun _ h=>.inl h) (fun _ h=>.inl h)) h1,⟨a2.1,a2.2.1,fun i v r bl e1 e2 e3=>hO w w' v r bl S S' (a2.2.2 i v r bl e1 e2 e3) (hk.ext hC hS) (fun g hg=>a3 g (hbl i bl e3 g hg))⟩,fun g hg hs=>?_,fun g hg=>hS2 g (a4 g hg),?_,hS2 mb a6,a7,a8⟩
 ·rcases hS g hs with h3 | h3
  ·exact a3 g hg h3
  obtain ⟨bl,hbl2,hg2⟩:=List.mem_flatten.1 hg
  obtain ⟨i,hi⟩:=List.mem_iff_getElem?.1 hbl2
  have hil:i<L.length:=by rw [← a2.2.1];exact (List.getElem?_eq_some_iff.1 hi).1
  have hiv:i<vs.length:=by rw [a2.1];exact hil
  have:=hlt w _ _ _ (a2.2.2 i _ _ bl (List.getElem?_eq_getElem hiv) (List.getElem?_eq_getElem hil) hi) g hg2
  omega
 obtain ⟨es,clock,b1,b2⟩:=a5
 exact ⟨es,clock,(hk.block mb (Array.getElem?_eq_some_iff.1 b1).1 h2).trans b1,b2⟩
end
theorem rec_hO (B:Nat):∀ w w' v r bl S S',RecO B w v r bl→Ext S w S' w'→(∀ g,g∈bl→g ∉ S)→RecO B w' v r bl:=fun _ _ _ _ _ _ _ h hb hS=>h.ext hb hS
theorem root_hO (B:Nat):∀ w w' v r bl S S',RootO B w v r bl→Ext S w S' w'→(∀ g,g∈bl→g ∉ S)→RootO B w' v r bl:=fun _ _ _ _ _ _ _ h hb hS=>h.ext hb hS
theorem rec_lt (B:Nat):∀ w v r bl,RecO B w v r bl→∀ g,g∈bl→g<w.heap.size:=fun _ _ _ _ h g hg=>(h.range g hg).2
theorem root_lt (B:Nat):∀ w v r bl,RootO B w v r bl→∀ g,g∈bl→g<w.heap.size:=fun _ _ _ _ h g hg=>(h.range g hg).2
def BookR:=Book RecO recT RecD.ok 45 7
def BookT:=Book RootO rootT RootD.ok 26 5
def GS (B:Nat) (w:World) (S:List Nat) (gb:Nat) (L:List RecD) (M:List RootD):Prop :=
 ∃ l1 m1 l2 m2,Blk w gb 191 (ghC l1 m1 l2 m2)∧gb∈S∧(∀ g,g∈S→B≤g∧g<w.heap.size)∧m1≠m2∧BookR B w S l1 m1 L∧BookT B w S l2 m2 M
theorem GS.below {B gb:Nat} {w w':World} {S:List Nat} {L:List RecD} {M:List RootD} (h:GS B w S gb L M) (hb:Below w.heap.size w w'):GS B w' S gb L M:=by
 obtain ⟨l1,m1,l2,m2,a1,a2,a3,a4,a5,a6⟩:=h
 exact ⟨l1,m1,l2,m2,a1.below hb,a2,fun g hg=>⟨(a3 g hg).1,Nat.lt_of_lt_of_le (a3 g hg).2 hb.size⟩,a4,Book.kept (rec_hO B) (rec_lt B) a5 (Kept.below hb []) (fun _ h=>by cases h) (fun _ _ h=>by cases h) (fun h=>by cases h) (fun _ h=>.inl h) (fun _ h=>h),Book.kept (root_hO B) (root_lt B) a6 (Kept.below hb []) (fun _ h=>by cases h) (fun _ _ h=>by cases h) (fun h=>by cases h) (fun _ h=>.inl h) (fun _ h=>h)⟩
theorem rec_cells {B:Nat} {w:World} {v:Value} {r:RecD} {bl:List Nat} (h:RecO B w v r bl):(cellsV v).length=7∧∀ u∈cellsV v,u.oneCell'=true:=by
 obtain ⟨p1,c1,p2,c2,p3,c3,rfl,_⟩:=h
 refine ⟨rfl,fun u hu=>?_⟩
 simp only [cellsV,recV,List.mem_cons,List.not_mem_nil,or_false] at hu
 rcases hu with rfl | rfl | rfl | rfl | rfl | rfl | rfl <;> rfl
theorem rec_info:(Tryz.prog.info? 45).map (fun i=>(i.zero,i.size,i.bytes))=some (some (.agg #[.string ⟨#[]⟩,.int .i64 0,.int .i64 0,.slice none 0 0,.bool false,.slice none 0 0,.slice none 0 0]),7,112):=by kernel_rfl
theorem recs_under:Tryz.prog.underlying 66=some (.slice 45):=by kernel_rfl
section
variable {ops:Array Oper} {rest:List Oper} {o:Oper} {a:Act} {w:World} {Q:Exit→Act→World→Prop}
theorem wpList_appRec (hgd:o.guard=none) {s x:Operand} (ho:o.op=.call { callee:=.builtin .append,args:=#[s,x],argTypes:=#[66,66] }) {v:Value} (hs:a.eval s=v) {base n g:Nat} {xs:List Value} {u:Value} (hown:w.ownsRow base 45 7 v n xs)
  (hx:a.eval x=.slice (some ⟨g,0,none⟩) 1 1) (hg:Blk w g 45 (cellsV u).toArray) (hu:(cellsV u).length=7∧∀ y∈cellsV u,y.oneCell'=true) (hn:n≤1000000) (hbase:base≤w.heap.size)
  (h:∀ v' w',w'.ownsRow base 45 7 v' (n+1) (xs++cellsV u)→w.grownBy w' v.ownBlock→(v'.ownBlock=v.ownBlock∨v'.ownBlock=some w.heap.size)→wpList Tryz.prog ops Q rest (a.put o.dst v') w'):wpList Tryz.prog ops Q (o::rest) a w:=by
 obtain ⟨i0,hi,hz0,hz1,hz2⟩:=info_parts rec_info
 exact wpList_append_own_at w hgd s x 66 ho base 45 i0 _ 7 112 recs_under hi hz0 hz1 hz2 rfl (by decide) v n xs hs hown ⟨g,0,none⟩ 1 1 (cellsV u) hx hu.1 (fun j y hy=>by rw [add_o,Nat.zero_add,hg.cell j];simpa using hy) hu.2 (by unfold maxLen;omega) (by omega) hbase (fun v' w' h1 h2 _ h4=>h v' w' h1 h2 h4)
end
end Go.Proofs.YtnopjabcdloepaaGreatDoor.Rc

namespace Go.Proofs.YtnopjabcdloepaaGreatDoor.Rc
open Go.RowKit
theorem ghost_ne_map {H:Type} {w:World} {g m n:Nat} {t:TypeId} {cs:Array Value} {k:TypeId} {R:Value→Option (DataW H × List MemPlace)} {D:DataW H} (h:Blk w g t cs) (hm:w.ownsMap Tryz.prog k R m n D):g≠m:=by
 obtain ⟨es,clock,h1,_⟩:=hm
 intro e
 subst e
 rw [show w.heap[g]?=_ from h] at h1
 cases h1
theorem map_ne_row {H:Type} {w:World} {m n B size n2:Nat} {e k:TypeId} {v:Value} {xs:List Value} {R:Value→Option (DataW H × List MemPlace)} {D:DataW H} (hm:w.ownsMap Tryz.prog k R m n D) (h:w.ownsRow B e size v n2 xs):v.ownBlock≠some m:=by
 intro h0
 rcases h.2 with ⟨rfl,_⟩ | ⟨g,cap,cur,rfl,h1,h2,_⟩
 ·cases h0
 obtain rfl:g=m:=Option.some.inj h0
 obtain ⟨es,clock,h3,_⟩:=hm
 rw [h2] at h3
 cases h3
theorem blk_ne_row {w:World} {g B size n2:Nat} {t e:TypeId} {cs:Array Value} {v:Value} {xs:List Value} (h:Blk w g t cs) (hr:w.ownsRow B e size v n2 xs) (hne:t≠e):v.ownBlock≠some g:=by
 intro h0
 rcases hr.2 with ⟨rfl,_⟩ | ⟨g',cap,cur,rfl,h1,h2,_⟩
 ·cases h0
 obtain rfl:g'=g:=Option.some.inj h0
 rw [show w.heap[g']?=_ from h] at h2
 injection h2 with h2
 injection h2 with _ h2
 exact hne h2
theorem row_ne_row {w:World} {B B' size size' n n':Nat} {e e':TypeId} {v v':Value} {xs xs':List Value} (h:w.ownsRow B e size v n xs) (h':w.ownsRow B' e' size' v' n' xs') (hne:e≠e'):∀ g,v.ownBlock=some g→v'.ownBlock≠some g:=by
 intro g h0 h0'
 rcases h.2 with ⟨rfl,_⟩ | ⟨g1,cap,cur,rfl,_,h2,_⟩
 ·cases h0
 rcases h'.2 with ⟨rfl,_⟩ | ⟨g2,cap',cur',rfl,_,h2',_⟩
 ·cases h0'
 obtain rfl:g1=g:=Option.some.inj h0
 obtain rfl:g2=g1:=Option.some.inj h0'
 rw [h2] at h2'
 injection h2' with h2'
 injection h2' with _ h2'
 exact hne h2'
def obv (v:Value):List Nat:=match v.ownBlock with | some g=>[g] | none=>[]
theorem mem_obv {v:Value} {g:Nat}:g∈obv v↔v.ownBlock=some g:=by
 unfold obv
 split
 ·rename_i h;rw [h];simp [eq_comm]
 rename_i h;rw [h];simp
theorem has_snoc {α:Type} (T:α→List Int) (L:List α) (x:α) (t:List Int):hasT T (L++[x]) t=(hasT T L t||decide (T x=t)):=by simp [hasT]
theorem own_lt {w:World} {B size n:Nat} {e:TypeId} {v:Value} {xs:List Value} (h:w.ownsRow B e size v n xs):∀ g,v.ownBlock=some g→B≤g∧g<w.heap.size:=h.lt
theorem gs_putRec {B gb:Nat} {S:List Nat} {L:List RecD} {M:List RootD} {wr w8:World} {l1 l2 v v48:Value} {m1 m2 B0:Nat} {vs:List Value} {bls:List (List Nat)} {D:DataW Unit} {r:RecD} {bl:List Nat} {X:List Int} {d:DataW Unit}
  (hB:B≤wr.heap.size) (g1:Blk wr gb 191 (ghC l1 m1 l2 m2)) (g2:gb∈S) (g3:∀ g,g∈S→B≤g∧g<wr.heap.size) (g4:m1≠m2) (g6:BookT B wr S l2 m2 M)
  (a1:wr.ownsRow B 45 7 l1 L.length (vs.flatMap cellsV)) (a2:RowsO RecO B wr vs L bls) (a3:∀ g,g∈bls.flatten→g ∉ S) (a4:∀ g,l1.ownBlock=some g→g∈S) (a5:wr.ownsMap (H:=Unit) Tryz.prog 9 (plainElem Tryz.prog 3) m1 L.length D) (a6:m1∈S) (a7:∀ xs,BR xs→Maps.has D (klit xs)=hasT recT L xs) (a8:∀ r,r∈L→r.ok∧recT r≠[])
  (hK:Kept ([m1,gb]++obv l1) wr w8) (hG:Blk w8 gb 191 (ghC v m1 l2 m2)) (hown:w8.ownsRow B 45 7 v (L.length+1) (vs.flatMap cellsV++cellsV v48)) (hmap:w8.ownsMap (H:=Unit) Tryz.prog 9 (plainElem Tryz.prog 3) m1 (L.length+1) (D.put (klit X) d))
  (hro:RecO B0 w8 v48 r bl) (hB0:wr.heap.size≤B0) (hloc:∀ g,v.ownBlock=some g→l1.ownBlock=some g∨(wr.heap.size≤g∧g ∉ bl)) (hr:r.ok) (hX:X=recT r) (hX0:X≠[]) (hlen:X.length≤2000000):∃ S2,GS B w8 S2 gb (L++[r]) M∧Ext S wr S2 w8:=by
 have hne1:=ghost_ne_map g1 a5
 have hrow:=blk_ne_row g1 a1 (by decide)
 have hmr:=map_ne_row a5 a1
 obtain ⟨vs2,bls2,D2,b1,b2,b3,b4,b5,b6,b7,b8⟩:=id g6
 have hne2:=ghost_ne_map g1 b5
 have hrow2:=blk_ne_row g1 b1 (by decide)
 have hmr2:=map_ne_row b5 a1
 have hmr3:=map_ne_row a5 b1
 have hrr:=row_ne_row b1 a1 (by decide)
 have hC:∀ g,g∈[m1,gb]++obv l1→g∈S∨wr.heap.size≤g:=fun g hg=>by
  simp only [List.mem_append,List.mem_cons,List.not_mem_nil,or_false,mem_obv] at hg
  rcases hg with (rfl | rfl) | hg
  ·exact .inl a6
  ·exact .inl g2
  exact .inl (a4 g hg)
 have hS2:∀ g,g∈obv v++S→g∈S∨wr.heap.size≤g:=fun g hg=>by
  simp only [List.mem_append,mem_obv] at hg
  rcases hg with hg | hg
  ·rcases hloc g hg with h | h
   ·exact .inl (a4 g h)
   exact .inr h.1
  exact .inl hg
 have hS3:∀ g,g∈S→g∈obv v++S:=fun g hg=>List.mem_append_right _ hg
 have hbr:BR X:=by rw [hX];exact br_rec hr
 refine ⟨obv v++S,⟨v,m1,l2,m2,hG,hS3 _ g2,fun g hg=>?_,g4,?_,?_⟩,hK.ext hC hS2⟩
 ·rcases List.mem_append.1 hg with hg | hg
  ·exact own_lt hown g (mem_obv.1 hg)
  exact ⟨(g3 g hg).1,Nat.lt_of_lt_of_le (g3 g hg).2 hK.size⟩
 ·have hl1:vs.length=L.length:=a2.1
  have hl2:bls.length=L.length:=a2.2.1
  have hbl:∀ (i:Nat) (bl:List Nat),bls[i]?=some bl→∀ g,g∈bl→g∈bls.flatten:=fun i bl hi g hg=>List.mem_flatten.2 ⟨bl,List.mem_of_getElem? hi,hg⟩
  refine ⟨vs++[v48],bls++[bl],D.put (klit X) d,?_,⟨by simp [hl1],by simp [hl2],fun i v' r' bl' e1 e2 e3=>?_⟩,fun g hg hs=>?_,fun g hg=>List.mem_append_left _ (mem_obv.2 hg),?_,hS3 _ a6,fun xs hxs=>?_,fun r' hr'=>?_⟩
  ·simpa using hown
  ·rcases Nat.lt_or_ge i L.length with h | h
   ·rw [List.getElem?_append_left (by omega)] at e1 e2 e3
    exact (a2.2.2 i v' r' bl' e1 e2 e3).ext (hK.ext hC hS2) (fun g hg=>a3 g (hbl i bl' e3 g hg))
   have hi:i=L.length:=by
    have:=(List.getElem?_eq_some_iff.1 e2).1
    simp at this
    omega
   subst hi
   rw [List.getElem?_append_right (by omega)] at e1 e2 e3
   simp only [hl1,hl2,Nat.sub_self,List.getElem?_cons_zero,Option.some.injEq] at e1 e2 e3
   subst e1 e2 e3
   exact hro.mono (Nat.le_trans hB hB0)
  ·rw [List.flatten_append,List.mem_append] at hg
   rcases hg with hg | hg
   ·rcases hS2 g hs with h3 | h3
    ·exact a3 g hg h3
    obtain ⟨bl',hbl2,hg2⟩:=List.mem_flatten.1 hg
    obtain ⟨i,hi⟩:=List.mem_iff_getElem?.1 hbl2
    have hil:i<L.length:=by rw [← hl2];exact (List.getElem?_eq_some_iff.1 hi).1
    have:=((a2.2.2 i _ _ bl' (List.getElem?_eq_getElem (by omega)) (List.getElem?_eq_getElem hil) hi).range g hg2).2
    omega
   have hg2:g∈bl:=by simpa using hg
   have h5:=(hro.range g hg2).1
   rcases List.mem_append.1 hs with hs | hs
   ·rcases hloc g (mem_obv.1 hs) with h | h
    ·have:=(g3 g (a4 g h)).2
     omega
    exact h.2 hg2
   have:=(g3 g hs).2
   omega
  ·simpa using hmap
  ·rw [has_snoc,← hX]
   by_cases e:X=xs
   ·subst e
    rw [Maps.has_put_same (Maps.Tidy.isMap (a5.tidy law)) (law.key (klit_key X hlen)) d,decide_eq_true rfl,Bool.or_true]
   rw [Maps.has_put_other (fun h=>e (klit_inj hxs hbr h).symm) d,a7 xs hxs,decide_eq_false e,Bool.or_false]
  rcases List.mem_append.1 hr' with h | h
  ·exact a8 r' h
  obtain rfl:r'=r:=by simpa using h
  exact ⟨hr,by rw [← hX];exact hX0⟩
 refine Book.kept (root_hO B) (root_lt B) g6 hK hC (fun g hg hc=>?_) (fun hc=>?_) hS2 hS3
 ·simp only [List.mem_append,List.mem_cons,List.not_mem_nil,or_false,mem_obv] at hc
  rcases hc with (rfl | rfl) | hc
  ·exact hmr3 hg
  ·exact hrow2 hg
  exact hrr g hg hc
 simp only [List.mem_append,List.mem_cons,List.not_mem_nil,or_false,mem_obv] at hc
 rcases hc with (h | h) | hc
 ·exact g4 h.symm
 ·exact hne2 h.symm
 exact hmr2 hc
theorem own_far {w w':World} {B:Nat} {e:TypeId} {size:Nat} {v:Value} {n:Nat} {xs:List Value} {row:Option Nat} (h:w.ownsRow B e size v n xs) (hg:w.grownBy w' row) (hr:∀ g,v.ownBlock=some g→some g≠row):w'.ownsRow B e size v n xs:=by
 refine ⟨h.1,h.2.imp id ?_⟩
 rintro ⟨g,cap,cur,rfl,h1,h2,h3⟩
 exact ⟨g,cap,cur,rfl,h1,(hg.block g (Array.getElem?_eq_some_iff.1 h2).1 (hr g rfl)).trans h2,h3⟩
theorem below_grown {w w':World} (h:Below w.heap.size w w'):w.grownBy w' none:=⟨h.os,h.tape,h.output,h.size,fun k hk _=>h.block k hk⟩
theorem put_endRec {B gb:Nat} {S:List Nat} {L:List RecD} {M:List RootD} {wr w5 w6 w1 w7:World} {l1 l2 v v48:Value} {m1 m2 B0 N:Nat} {vs:List Value} {bls:List (List Nat)} {D:DataW Unit} {r:RecD} {bl:List Nat} {X:List Int} {d:DataW Unit} (hN:N=L.length)
  (hB:B≤wr.heap.size) (g1:Blk wr gb 191 (ghC l1 m1 l2 m2)) (g2:gb∈S) (g3:∀ g,g∈S→B≤g∧g<wr.heap.size) (g4:m1≠m2) (g6:BookT B wr S l2 m2 M)
  (a1:wr.ownsRow B 45 7 l1 N (vs.flatMap cellsV)) (a2:RowsO RecO B wr vs L bls) (a3:∀ g,g∈bls.flatten→g ∉ S) (a4:∀ g,l1.ownBlock=some g→g∈S) (a5:wr.ownsMap (H:=Unit) Tryz.prog 9 (plainElem Tryz.prog 3) m1 N D) (a6:m1∈S) (a7:∀ xs,BR xs→Maps.has D (klit xs)=hasT recT L xs) (a8:∀ r,r∈L→r.ok∧recT r≠[])
  (hb0:Below wr.heap.size wr w5) (hm6:w6.ownsMap (H:=Unit) Tryz.prog 9 (plainElem Tryz.prog 3) m1 (N+1) (D.put (klit X) d)) (hg6:w5.grownBy w6 (some m1)) (hb:Below w6.heap.size w6 w1) (hro:RecO B0 w1 v48 r bl) (hB0:B0=w6.heap.size)
  (ho7:w7.ownsRow B 45 7 v (N+1) (vs.flatMap cellsV++cellsV v48)) (hg7:w1.grownBy w7 l1.ownBlock) (hl7:v.ownBlock=l1.ownBlock∨v.ownBlock=some w1.heap.size) (hr:r.ok) (hX:X=recT r) (hX0:X≠[]) (hlen:X.length≤2000000) :
  ∃ S2,GS B (w7.setCell ⟨gb,0,none⟩ v) S2 gb (L++[r]) M∧Ext S wr S2 (w7.setCell ⟨gb,0,none⟩ v):=by
 subst hN
 have hg8:=grown_setCells gb [v] 0 w7
 change w7.grownBy (w7.setCell ⟨gb,0,none⟩ v) (some gb) at hg8
 have hne1:=ghost_ne_map g1 a5
 have hrow:=blk_ne_row g1 a1 (by decide)
 have hmr:=map_ne_row a5 a1
 have hG7:Blk w7 gb 191 (ghC l1 m1 l2 m2):=(((g1.below hb0).grown hg6 (fun h=>hne1 (Option.some.inj h))).below hb).grown hg7 (fun h=>hrow h.symm)
 have hs1:=hb0.size
 have hs2:=hg6.size
 have hs3:=hb.size
 have hs7:=hg7.size
 have K1:Kept ([m1,gb]++obv l1) wr w1:=((Kept.below hb0 _).trans (Kept.grown hg6 (fun g h=>by injection h with h;simp [h]))).trans (Kept.below hb _)
 have K2:Kept ([m1,gb]++obv l1) w1 (w7.setCell ⟨gb,0,none⟩ v):=(Kept.grown hg7 (fun g h=>by simp [mem_obv,h])).trans (Kept.grown hg8 (fun g h=>by injection h with h;simp [h]))
 have hbl:=fun g hg=>hro.range g hg
 have hw7:=blk_ne_row hG7 ho7 (by decide)
 refine gs_putRec (d:=d) hB g1 g2 g3 g4 g6 a1 a2 a3 a4 a5 a6 a7 a8 (K1.trans K2) (hG7.set_ 0 v) (own_far ho7 hg8 (fun g h e=>hw7 (by rw [h,e]))) ?_ (hro.ext (K2.ext (S:=[m1,gb]++obv l1) (S':=[]) (fun _ h=>.inl h) (fun _ h=>by cases h)) (fun g hg hc=>?_)) (by omega) (fun g hg=>?_) hr hX hX0 hlen
 ·exact ((hm6.kept (below_grown hb) (by simp)).kept hg7 (fun e=>hmr e.symm)).kept hg8 (fun e=>hne1 (Option.some.inj e).symm)
 ·have h1:=(hbl g hg).1
  simp only [List.mem_append,List.mem_cons,List.not_mem_nil,or_false,mem_obv] at hc
  rcases hc with (rfl | rfl) | hc
  ·have:=(g3 _ a6).2
   omega
  ·have:=(g3 _ g2).2
   omega
  have:=(g3 _ (a4 g hc)).2
  omega
 rcases hl7 with h | h
 ·exact .inl (h ▸ hg)
 rw [h] at hg
 injection hg with hg
 refine .inr ⟨by omega,fun hc=>?_⟩
 have:=(hbl g hc).2
 omega
theorem put_ownRec {B N:Nat} {wr w5 w6 w1:World} {la:Value} {m:Nat} {xs:List Value} {D:DataW Unit} (a1:wr.ownsRow B 45 7 la N xs) (a5:wr.ownsMap (H:=Unit) Tryz.prog 9 (plainElem Tryz.prog 3) m N D) (hb0:Below wr.heap.size wr w5) (hg6:w5.grownBy w6 (some m)) (hb:Below w6.heap.size w6 w1):w1.ownsRow B 45 7 la N xs :=
 own_far (own_far (own_far a1 (below_grown hb0) (fun g _ e=>by cases e)) hg6 (fun g h e=>map_ne_row a5 a1 (by rw [h,e]))) (below_grown hb) (fun g _ e=>by cases e)
end Go.Proofs.YtnopjabcdloepaaGreatDoor.Rc

namespace Go.Proofs.YtnopjabcdloepaaGreatDoor.Rc
open Go.RowKit
section
variable {P : Program} {ops : Array Oper} {md : Region.Mode}
def reachB (md : Region.Mode) (ops : Array Oper) : Nat → Nat → Nat → Bool
  | 0, m, i => onB md ops m i
  | f + 1, m, i => onB md ops m i || (List.range ops.size).any fun k => onB md ops m k && reachB md ops f k i
theorem onB_listed {m i n : Nat} {listed : Array Bool} (inv : HeadInv md ops n listed) (h : onB md ops m i = true) (hl : listed.getD m false = true) : listed.getD i false = true := by
  unfold onB at h
  cases ho : ops[m]? with
  | none => rw [ho] at h; cases h
  | some o =>
    rw [ho] at h
    obtain ⟨k, hk, hb⟩ := Array.any_eq_true.1 h
    simp only [Bool.and_eq_true, beq_iff_eq] at hb
    rw [← hb.1]
    exact inv.closed m o ho hl _ (Array.getElem_mem hk) hb.2
theorem reach_listed {n : Nat} {listed : Array Bool} (inv : HeadInv md ops n listed) : ∀ (f m i : Nat), reachB md ops f m i = true → listed.getD m false = true → listed.getD i false = true
  | 0, m, i, h, hl => onB_listed inv h hl
  | f + 1, m, i, h, hl => by
    simp only [reachB, Bool.or_eq_true, List.any_eq_true, Bool.and_eq_true] at h
    rcases h with h | ⟨k, _, h1, h2⟩
    · exact onB_listed inv h hl
    exact reach_listed inv f k i h2 (onB_listed inv h1 hl)
theorem reach_ready {n : Nat} {listed : Array Bool} (inv : HeadInv md ops n listed) : ∀ (f m i : Nat), reachB md ops f m i = true → m ∈ Region.ready md ops listed → listed.getD i false = true
  | 0, m, i, h, hl => onB_ready h hl
  | f + 1, m, i, h, hl => by
    simp only [reachB, Bool.or_eq_true, List.any_eq_true, Bool.and_eq_true] at h
    rcases h with h | ⟨k, _, h1, h2⟩
    · exact onB_ready h hl
    exact reach_listed inv f k i h2 (onB_ready h1 hl)
def late6B (md : Region.Mode) (ops : Array Oper) (n e : Nat) : Bool :=
  decide (n < ops.size) && (List.range n).all (fun i => i == e || reachB md ops 6 n i) && (List.range (ops.size - (n + 1))).all (fun k => onB md ops (n + 1 + k) n && onB md ops (n + 1 + k) e) &&
  Region.seqB md ops (ops.size - n) n ((Array.replicate n true) ++ Array.replicate (ops.size - n) false) && Region.seqB md ops (ops.size - (n + 1)) (n + 1) ((Array.replicate (n + 1) true) ++ Array.replicate (ops.size - (n + 1)) false)
theorem wpAny_inv6 {Q : Exit → Act → World → Prop} {n e : Nat} (he : e < n) (hB : late6B md ops n e = true) (J : Array Bool → Act → World → Prop)
    (step : ∀ i, i < n → ∀ listed a w, HeadInv md ops n listed → i ∈ Region.ready md ops listed → J listed a w → wpOp P ops Q i (fun a' w' => J (listed.setIfInBounds i true) a' w') a w)
    (hdag : ∀ i, i < n → ∀ o, ops[i]? = some o → ∀ e ∈ o.after, Region.binds md e = true → e.on < i)
    (done : ∀ a w, J ((Array.replicate n true) ++ Array.replicate (ops.size - n) false) a w → wpList P ops Q (ops.toList.drop n) a w)
    (late : ∀ listed a w, (∀ i, i < n → i ≠ e → listed.getD i false = true) → J listed a w → ∀ on oe, ops[n]? = some on → ops[e]? = some oe → wpList P ops Q (on :: oe :: ops.toList.drop (n + 1)) a w) :
    ∀ (m : Nat) (listed : Array Bool) (a : Act) (w : World), left n listed = m → HeadInv md ops n listed → J listed a w → wpAny P md ops Q (m + (ops.size - n)) listed a w := by
  simp only [late6B, Bool.and_eq_true, decide_eq_true_eq, List.all_eq_true, List.mem_range, Bool.or_eq_true, beq_iff_eq] at hB
  obtain ⟨⟨⟨⟨hn, hd1⟩, hd2⟩, hq⟩, hq2⟩ := hB
  intro m
  induction m using Nat.strongRecOn with
  | _ m ih =>
    intro listed a w hm inv hJ
    have hsz := inv.size
    by_cases h0 : left n listed = 0
    · have hall := head_all inv (by omega) (left_zero h0)
      subst hall
      have hm0 : m = 0 := by omega
      subst hm0
      have h1 := done a w hJ
      have hl : (ops.toList.drop n).length = ops.size - n := by simp
      have h2 := wpAny_of_seq (md := md) (Q' := Q) (ops.toList.drop n) n ((Array.replicate n true) ++ Array.replicate (ops.size - n) false) a w
        (fun j => by rw [List.getElem?_drop]; simp) (by rw [hl]; exact hq) h1
      rw [hl] at h2
      rw [Nat.zero_add]
      exact h2
    have hex : ∃ i, i < n ∧ listed.getD i true = false := by
      rcases Classical.em (∃ i, i < n ∧ listed.getD i true = false) with h | h
      · exact h
      exfalso
      apply h0
      unfold left
      have : ((List.range n).filter fun i => !listed.getD i true) = [] := by
        rw [List.filter_eq_nil_iff]
        intro i hi hh
        exact h ⟨i, List.mem_range.1 hi, by simpa using hh⟩
      rw [this]; rfl
    obtain ⟨i0, hi0, hu0⟩ := hex
    obtain ⟨m', rfl⟩ : ∃ m', m = m' + 1 := ⟨m - 1, by omega⟩
    have hfuel : m' + 1 + (ops.size - n) = (m' + (ops.size - n)) + 1 := by omega
    rw [hfuel]
    have hready : ∀ k i, i < k → i < n → listed.getD i true = false → ∃ i', i' ∈ Region.ready md ops listed := by
      intro k
      induction k with
      | zero => intro i h; omega
      | succ k ihk =>
        intro i hik hin hu
        have hio : i < ops.size := by omega
        by_cases hd : ∀ e ∈ (ops[i]'hio).after, Region.binds md e = true → listed.getD e.on false = true
        · exact ⟨i, mem_ready.2 ⟨hu, ops[i]'hio, Array.getElem?_eq_getElem hio, hd⟩⟩
        have hd' : ∃ e ∈ (ops[i]'hio).after, Region.binds md e = true ∧ listed.getD e.on false ≠ true := by
          refine Classical.byContradiction fun hh => hd fun e he hb => ?_
          refine Classical.byContradiction fun hne => hh ⟨e, he, hb, hne⟩
        obtain ⟨e, he, hb, hne⟩ := hd'
        have hlt := hdag i hin _ (Array.getElem?_eq_getElem hio) e he hb
        refine ihk e.on (by omega) (by omega) ?_
        exact getD_in (by omega) (by simpa using hne)
    obtain ⟨ir, hir⟩ := hready (i0 + 1) i0 (by omega) hi0 hu0
    refine ⟨fun h => (by rw [h] at hir; cases hir), fun i hi => ?_⟩
    by_cases hin : i < n
    · have hu := (mem_ready.1 hi).1
      have hlt : i < listed.size := by omega
      have hdec := left_set hin hu hlt
      refine wpOp_mono (fun a' w' hJ' => ?_) (step i hin listed a w inv hi hJ)
      have hle := ih (left n (listed.setIfInBounds i true)) (by omega) (listed.setIfInBounds i true) a' w' rfl (inv.set hi hin) hJ'
      exact more_fuel hle (by omega)
    have hio : i < ops.size := by
      obtain ⟨_, o, ho, _⟩ := mem_ready.1 hi
      exact (Array.getElem?_eq_some_iff.1 ho).1
    by_cases hin' : i = n
    · subst hin'
      have hothers : ∀ j, j < i → j ≠ e → listed.getD j false = true := fun j hj hje => by
        rcases hd1 j hj with h | h
        · exact absurd h hje
        exact reach_ready inv 6 _ _ h hi
      have hoe : e < ops.size := by omega
      have hl := late listed a w hothers hJ _ _ (Array.getElem?_eq_getElem hio) (Array.getElem?_eq_getElem hoe)
      have hei : i0 = e := Classical.byContradiction fun hne => by
        have := getD_tf (by omega) (hothers i0 hi0 hne)
        rw [this] at hu0
        cases hu0
      subst hei
      have hw : wpOp P ops Q i (wpList P ops Q (ops[i0]'hoe :: ops.toList.drop (i + 1))) a w := by unfold wpOp; simp only [Array.getElem?_eq_getElem hio]; exact hl
      refine wpOp_mono (fun a' w' h' => ?_) hw
      have hs2 : (listed.setIfInBounds i true).size = ops.size := by simp [hsz]
      have hrd : ∀ j, j ∈ Region.ready md ops (listed.setIfInBounds i true) → j = i0 := fun j hj => by
        obtain ⟨hju, oj, hoj, _⟩ := mem_ready.1 hj
        have hjs := (Array.getElem?_eq_some_iff.1 hoj).1
        refine Classical.byContradiction fun hne => ?_
        rcases Nat.lt_trichotomy j i with h | h | h
        · have h1 := hothers j h hne
          rw [getD_set_ne true (by omega)] at hju
          rw [getD_tf (by omega) h1] at hju
          cases hju
        · subst h
          simp [hio, hsz] at hju
        have h1 := hd2 (j - (i + 1)) (by omega)
        rw [show i + 1 + (j - (i + 1)) = j by omega] at h1
        have h2 := onB_ready h1.2 hj
        rw [getD_set_ne false (by omega)] at h2
        rw [getD_tf (by omega) h2] at hu0
        cases hu0
      have hin0 : i0 ∈ Region.ready md ops (listed.setIfInBounds i true) := by
        refine mem_ready.2 ⟨by rw [getD_set_ne true (by omega)]; exact hu0, ops[i0]'hoe, Array.getElem?_eq_getElem hoe, fun x hx hb => ?_⟩
        have := hdag i0 he _ (Array.getElem?_eq_getElem hoe) x hx hb
        rw [getD_set_ne false (by omega)]
        exact hothers x.on (by omega) (by omega)
      have hfin : wpAny P md ops Q ((ops.size - (i + 1)) + 1) (listed.setIfInBounds i true) a' w' := by
        refine ⟨fun h => (by rw [h] at hin0; cases hin0), fun j hj => ?_⟩
        have hj0 := hrd j hj
        subst hj0
        have hw2 : wpOp P ops Q j (wpList P ops Q (ops.toList.drop (i + 1))) a' w' := by unfold wpOp; simp only [Array.getElem?_eq_getElem hoe]; exact h'
        refine wpOp_mono (fun a2 w2 h2 => ?_) hw2
        have hall : (listed.setIfInBounds i true).setIfInBounds j true = (Array.replicate (i + 1) true) ++ Array.replicate (ops.size - (i + 1)) false := by
          apply Array.ext_getElem?
          intro k
          have hk0 : k < i → k ≠ j → listed[k]? = some true := fun h1 h2 => by
            have := hothers k h1 h2
            have hks : k < listed.size := by omega
            simp [hks] at this
            rw [Array.getElem?_eq_getElem hks, this]
          have hk1 : i < k → k < ops.size → listed[k]? = some false := fun h1 h2 => by
            have := inv.tail k (by omega) h2
            have hks : k < listed.size := by omega
            simp [hks] at this
            rw [Array.getElem?_eq_getElem hks, this]
          have hk2 : ops.size ≤ k → listed[k]? = none := fun h => Array.getElem?_eq_none (by omega)
          simp only [Array.getElem?_setIfInBounds, Array.getElem?_append, Array.getElem?_replicate, Array.size_replicate, Array.size_setIfInBounds, hsz]
          by_cases c1 : j = k
          · rw [if_pos c1, if_pos (by omega), if_pos (by omega), if_pos (by omega)]
          rw [if_neg c1]
          by_cases c2 : i = k
          · rw [if_pos c2, if_pos (by omega), if_pos (by omega), if_pos (by omega)]
          rw [if_neg c2]
          by_cases c3 : k < i
          · rw [hk0 c3 (fun h => c1 h.symm), if_pos (by omega), if_pos (by omega)]
          rw [if_neg (by omega)]
          by_cases c4 : k < ops.size
          · rw [hk1 (by omega) c4, if_pos (by omega)]
          rw [hk2 (by omega), if_neg (by omega)]
        rw [hall]
        have hl : (ops.toList.drop (i + 1)).length = ops.size - (i + 1) := by simp
        have h3 := wpAny_of_seq (md := md) (Q' := Q) (ops.toList.drop (i + 1)) (i + 1) ((Array.replicate (i + 1) true) ++ Array.replicate (ops.size - (i + 1)) false) a2 w2
          (fun j => by rw [List.getElem?_drop]; simp) (by rw [hl]; exact hq2) h2
        rw [hl] at h3
        exact h3
      exact more_fuel hfin (by omega)
    exfalso
    have h1 := hd2 (i - (n + 1)) (by omega)
    rw [show n + 1 + (i - (n + 1)) = i by omega] at h1
    have h2 := onB_ready h1.1 hi
    have := inv.tail n (Nat.le_refl _) hn
    rw [getD_tf (by omega) h2] at this
    cases this
theorem wp_region_grow6 {id : Nat} {Q : Exit → Act → World → Prop} {w : World} {l : List Oper} (n e : Nat) (ds : Nat → Bool) (base : List Value) (D : List Deferred) (Ψ : Nat → Value → World → Prop) (isA : Nat → Bool) (F : (Nat → Value) → Array Value) (hF : ∀ f, fill2 ds base f = F f) (he : e < n)
    (hm : P.follows .mixedOrders = true) (hB : late6B .any l.toArray n e = true) (hdag : dagB .any l.toArray n = true) (hdst : dst2B l n ds = true) (hap : apartB l n = true)
    (stab : ∀ j v w w', Ψ j v w → Below w.heap.size w w' → Ψ j v w')
    (steps : Steps2 P l F D w Ψ isA 0 (l.take n))
    (done : ∀ f w', Below w.heap.size w w' → (∀ j o d, j < n → l[j]? = some o → o.dst = some d → Ψ j (f d) w') → wpList P l.toArray Q (l.drop n) ⟨F f, D⟩ w')
    (late : ∀ f w', Below w.heap.size w w' → (∀ j o d, j < n → j ≠ e → l[j]? = some o → o.dst = some d → Ψ j (f d) w') → ∀ on oe, l[n]? = some on → l[e]? = some oe → wpList P l.toArray Q (on :: oe :: l.drop (n + 1)) ⟨F f, D⟩ w') :
    (Code.region id l.toArray true).wp P Q ⟨base.toArray, D⟩ w := by
  refine wp_region_any hm ?_
  have hn : n < l.toArray.size := by
    simp only [late6B, Bool.and_eq_true, decide_eq_true_eq] at hB
    exact hB.1.1.1.1
  have hnl : n < l.length := by simpa using hn
  have hds : ∀ j o, j < n → l[j]? = some o → ∃ d, o.dst = some d ∧ ds d = true := by
    intro j o hj ho
    have h1 := List.all_eq_true.1 hdst o (List.mem_iff_getElem?.2 ⟨j, by rw [List.getElem?_take_of_lt hj]; exact ho⟩)
    cases hd : o.dst with
    | none => rw [hd] at h1; cases h1
    | some d =>
      rw [hd] at h1
      exact ⟨d, rfl, h1⟩
  have hne : ∀ i j oi oj d, i < n → j < n → i ≠ j → l[i]? = some oi → l[j]? = some oj → oi.dst = some d → oj.dst ≠ some d := by
    intro i j oi oj d hi' hj hij hoi hoj hd hd'
    have h1 := List.all_eq_true.1 (List.all_eq_true.1 hap i (List.mem_range.2 hi')) j (List.mem_range.2 hj)
    simp only [Bool.or_eq_true, decide_eq_true_eq, hoi, hoj, Option.bind_some, hd, hd'] at h1
    rcases h1 with h1 | h1
    · exact hij h1
    exact h1 rfl
  let J : Array Bool → Act → World → Prop := fun listed a w' => ∃ f, a = ⟨F f, D⟩ ∧ Below w.heap.size w w' ∧ (∀ j o d, j < n → l[j]? = some o → o.dst = some d → listed.getD j false = true → Ψ j (f d) w')
  have key := wpAny_inv6 (P := P) (md := .any) (Q := Q) he hB J (fun i hin listed a w1 inv hi' hJ => by
      obtain ⟨f, rfl, hb, hΨ⟩ := hJ
      obtain ⟨_, o, ho, hall⟩ := mem_ready.1 hi'
      have ho' : l[i]? = some o := by simpa using ho
      obtain ⟨d, hd, hds'⟩ := hds i o hin ho'
      have hst := steps2_at (l.take n) 0 i o steps (by rw [List.getElem?_take_of_lt hin]; exact ho')
      rw [Nat.zero_add] at hst
      have h1 := hst f w1 hb (deps_of _ fun e he hbd oe de hoe hde => by
          have hlt := dagB_spec hdag i hin o ho e (by simpa using he) hbd
          exact hΨ e.on oe de (by omega) hoe hde (hall e (by simpa using he) hbd))
        (fun x a' w' => match x with | .normal => J (listed.setIfInBounds i true) a' w' | y => Q y a' w')
        (fun v w' hv hw' hnew => by
          refine ⟨upd f d v, ?_, hb.trans (hw'.mono hb.size), fun j oj dj hj hoj hdj hl => ?_⟩
          · simp only [Act.put, hd]
            rw [← hF, ← hF, fill2_set v hds']
          by_cases e : i = j
          · subst e
            have : oj = o := Option.some.inj (hoj.symm.trans ho')
            subst this
            have : dj = d := Option.some.inj (hdj.symm.trans hd)
            subst this
            simpa [upd] using hv
          have hdne : dj ≠ d := fun h => hne i j o oj d hin hj e ho' hoj hd (by rw [hdj, h])
          have : upd f d v dj = f dj := by simp [upd, hdne]
          rw [this]
          rw [getD_set_ne false e] at hl
          exact stab j _ _ _ (hΨ j oj dj hj hoj hdj hl) hw')
      unfold wpOp
      simp only [ho]
      unfold wpList at h1
      split
      · rename_i hw
        rw [if_pos hw] at h1
        rcases h1 with h1 | ⟨h1, h2⟩
        · exact .inl (Oper.wp_to (fun a w h => h) (fun c a w h => h) (fun h => h) h1)
        exact .inr ⟨h1, h2⟩
      rename_i hw
      rw [if_neg hw] at h1
      exact h1)
    (fun i hin o ho e he hb => dagB_spec hdag i hin o ho e he hb)
    (fun a w' hJ => by
      obtain ⟨f, rfl, hb, hΨ⟩ := hJ
      have hl : ∀ j, j < n → (Array.replicate n true ++ Array.replicate (l.toArray.size - n) false).getD j false = true := by
       intro j hj
       have e : (Array.replicate n true ++ Array.replicate (l.toArray.size - n) false)[j]? = some true := by
         rw [Array.getElem?_append_left (by simpa using hj)]
         simp [hj]
       simp only [Array.getD_eq_getD_getElem?, e, Option.getD_some]
      exact done f w' hb (fun j o d hj ho hd => hΨ j o d hj ho hd (hl j hj)))
    (fun listed a w' hl hJ on oe hon hoe => by
      obtain ⟨f, rfl, hb, hΨ⟩ := hJ
      exact late f w' hb (fun j o d hj hje ho hd => hΨ j o d hj ho hd (hl j hj hje)) on oe (by simpa using hon) (by simpa using hoe))
    (left n (Array.replicate l.toArray.size false)) (Array.replicate l.toArray.size false) ⟨base.toArray, D⟩ { w with drawn := w.drawn + 1 } rfl
    ⟨by simp, fun j oj _ hl => (by rw [getD_replicate_false] at hl; cases hl), fun t _ ht => getD_in (by simpa using ht) (getD_replicate_false _ _)⟩
    ⟨fun k => base.getD k undef, by
        have := fill2L_id ds (fun k => base.getD k undef) base 0 (fun j b hb => by simp [hb])
        rw [← hF]; simp only [fill2, this], (Below.refl _ _).drew, (fun j o d _ _ _ hl => by rw [getD_replicate_false] at hl; cases hl)⟩
  refine more_fuel key ?_
  have : left n (Array.replicate l.toArray.size false) ≤ n := by
    unfold left
    exact Nat.le_trans (List.length_filter_le _ _) (by simp)
  omega
end
end Go.Proofs.YtnopjabcdloepaaGreatDoor.Rc

namespace Go.Proofs.YtnopjabcdloepaaGreatDoor.Rc
open Go.RowKit
theorem str_empty (X:List Int):(strOfNums X).toList.isEmpty=decide (X=[]):=by
 rw [ByteArray.toList_eq,strOfNums_data]
 cases X <;> rfl
def OwnV {α:Type} (O:Nat→World→Value→α→List Nat→Prop) (B0:Nat) (r:α):Value→World→Prop:=fun v w=>∃ bl,O B0 w v r bl
theorem sta_ownR (B0:Nat) (r:RecD):Sta (OwnV RecO B0 r):=fun _ _ _ ⟨bl,h⟩ hb=>⟨bl,h.ext (S:=[]) (S':=[]) (.below hb) (fun _ _ h=>by cases h)⟩
def Sl1 {α:Type} (O:Nat→World→Value→α→List Nat→Prop) (t:TypeId) (B0:Nat) (r:α):Value→World→Prop:=fun x w=>∃ g v bl,x=.slice (some ⟨g,0,none⟩) 1 1∧B0≤g∧Blk w g t (cellsV v).toArray∧O B0 w v r bl
theorem sta_slR (t:TypeId) (B0:Nat) (r:RecD):Sta (Sl1 RecO t B0 r):=fun _ _ _ ⟨g,v,bl,h1,h2,h3,h4⟩ hb=>⟨g,v,bl,h1,h2,h3.below hb,h4.ext (S:=[]) (S':=[]) (.below hb) (fun _ _ h=>by cases h)⟩
theorem puts_snoc {α:Type} (T:α→List Int) (L l:List α) (i:Nat) (r:α) (h:l[i]?=some r):putsT T L (l.take (i+1))=putT T (putsT T L (l.take i)) r:=by
 have hi:=(List.getElem?_eq_some_iff.1 h).1
 unfold putsT
 rw [List.take_succ_eq_append_getElem hi,List.foldl_append]
 have:l[i]=r:=by have:=List.getElem?_eq_getElem hi;rw [this] at h;exact Option.some.inj h
 rw [this]
 rfl
theorem puts_len {α:Type} (T:α→List Int):∀ (l L:List α),(putsT T L l).length≤L.length+l.length
 | [],L=>by simp [putsT]
 | x::l,L=>by
  have:=puts_len T l (putT T L x)
  have h2:(putT T L x).length≤L.length+1:=by unfold putT;split <;> simp
  simp only [putsT,List.foldl_cons,List.length_cons] at this ⊢
  omega
def p3RecL (r:RecD) (p1:Option Addr) (c1:Nat) (p2:Option Addr) (c2:Nat) (p3:Option Addr) (c3:Nat) (gb:Nat) (X:List Int):List (Value→World→Prop):=[
 Eq1 (.pointer (some ⟨gb,0,none⟩)),
 Eq1 (.pointer (some ⟨gb,0,none⟩)),
 Eq1 (.pointer (some ⟨gb,2,none⟩)),
 Eq1 (.func (.func 64) #[] #[]),
 Eq1 (.agg #[.string r.k,.int .i64 r.cl,.int .i64 r.sq,.slice p1 r.n c1,.bool r.gone,.slice p2 r.vs.length c2,.slice p3 r.ss.length c3]),
 SlL X,
 Eq1 (.string (strOfNums X)),
 Eq1 (.string (strOfNums X))]
theorem p3RecS (r:RecD) (p1:Option Addr) (c1:Nat) (p2:Option Addr) (c2:Nat) (p3:Option Addr) (c3:Nat) (gb:Nat) (X:List Int):∀ j x' q q',(p3RecL r p1 c1 p2 c2 p3 c3 gb X).getD j (fun _ _=>True) x' q→Below q.heap.size q q'→(p3RecL r p1 c1 p2 c2 p3 c3 gb X).getD j (fun _ _=>True) x' q':=by
 refine sta_all _ ?_
 simp only [p3RecL,List.mem_cons,forall_eq_or_imp,List.not_mem_nil,false_implies,implies_true,and_true]
 exact ⟨sta_eq _,sta_eq _,sta_eq _,sta_eq _,sta_eq _,sta_slL _,sta_eq _,sta_eq _⟩
def p5RecL (gb m1 N cc:Nat) (lq:Option Addr) (s:ByteArray):List (Value→World→Prop):=[
 Eq1 (.pointer (some ⟨gb,0,none⟩)),
 Eq1 (.pointer (some ⟨gb,0,none⟩)),
 Eq1 (.pointer (some ⟨gb,1,none⟩)),
 Eq1 (.map (some m1)),
 Eq1 (.string s),
 Eq1 (.pointer (some ⟨gb,0,none⟩)),
 Eq1 (.pointer (some ⟨gb,0,none⟩)),
 Eq1 (.pointer (some ⟨gb,0,none⟩)),
 Eq1 (.slice lq N cc),
 Eq1 (.int .i64 (N:Int))]
theorem p5RecS (gb m1 N cc:Nat) (lq:Option Addr) (s:ByteArray):∀ j x' q q',(p5RecL gb m1 N cc lq s).getD j (fun _ _=>True) x' q→Below q.heap.size q q'→(p5RecL gb m1 N cc lq s).getD j (fun _ _=>True) x' q':=by
 refine sta_all _ ?_
 simp only [p5RecL,List.mem_cons,forall_eq_or_imp,List.not_mem_nil,false_implies,implies_true,and_true]
 exact ⟨sta_eq _,sta_eq _,sta_eq _,sta_eq _,sta_eq _,sta_eq _,sta_eq _,sta_eq _,sta_eq _,sta_eq _⟩
def p6RecL (r:RecD) (p1:Option Addr) (c1:Nat) (p2:Option Addr) (c2:Nat) (p3:Option Addr) (c3:Nat) (gb N cc:Nat) (lq:Option Addr) (B0:Nat):List (Value→World→Prop):=[
 Eq1 (.pointer (some ⟨gb,0,none⟩)),
 Eq1 (.pointer (some ⟨gb,0,none⟩)),
 Eq1 (.pointer (some ⟨gb,0,none⟩)),
 Eq1 (.pointer (some ⟨gb,0,none⟩)),
 Eq1 (.slice lq N cc),
 Eq1 (.pointer (some ⟨gb,0,none⟩)),
 Eq1 (.pointer (some ⟨gb,0,none⟩)),
 Eq1 (.pointer (some ⟨gb,3,none⟩)),
 Eq1 (.func (.func 147) #[] #[]),
 Eq1 (.agg #[.string r.k,.int .i64 r.cl,.int .i64 r.sq,.slice p1 r.n c1,.bool r.gone,.slice p2 r.vs.length c2,.slice p3 r.ss.length c3]),
 OwnV RecO B0 r,
 Sl1 RecO 45 B0 r]
theorem p6RecS (r:RecD) (p1:Option Addr) (c1:Nat) (p2:Option Addr) (c2:Nat) (p3:Option Addr) (c3:Nat) (gb N cc:Nat) (lq:Option Addr) (B0:Nat):∀ j x' q q',(p6RecL r p1 c1 p2 c2 p3 c3 gb N cc lq B0).getD j (fun _ _=>True) x' q→Below q.heap.size q q'→(p6RecL r p1 c1 p2 c2 p3 c3 gb N cc lq B0).getD j (fun _ _=>True) x' q':=by
 refine sta_all _ ?_
 simp only [p6RecL,List.mem_cons,forall_eq_or_imp,List.not_mem_nil,false_implies,implies_true,and_true]
 exact ⟨sta_eq _,sta_eq _,sta_eq _,sta_eq _,sta_eq _,sta_eq _,sta_eq _,sta_eq _,sta_eq _,sta_eq _,sta_ownR _ _,sta_slR _ _ _⟩
set_option maxRecDepth 20000 in
set_option maxHeartbeats 16000000 in
theorem putRec_c (B gb:Nat) (S:List Nat) (L:List RecD) (M:List RootD) (p:Option Addr) (n ca:Nat) (rs:List RecD) (hn:n=rs.length) (hok:∀ r,r∈rs→r.ok) (hlen:L.length+rs.length≤100000) (w:World) (hB:B≤w.heap.size) (hGS:GS B w S gb L M) (hR:RecsF S w p rs) :
  Calls Tryz.prog 151 #[.pointer (some ⟨gb,0,none⟩),.slice p n ca] w fun e w'=>e=.returned (.tuple #[])∧∃ S',GS B w' S' gb (putsT recT L rs) M∧Ext S w S' w':=by
 obtain ⟨P,hP⟩:∃ P:Nat→List RecD,P=fun i=>putsT recT L (rs.take i):=⟨_,rfl⟩
 have hP0:P 0=L:=by rw [hP];rfl
 have hPn:putsT recT L rs=P n:=by rw [hP,hn];show _=putsT recT L (rs.take rs.length);rw [List.take_length]
 have hPs:∀ i r,rs[i]?=some r→P (i+1)=putT recT (P i) r:=fun i r h=>by rw [hP];exact puts_snoc recT L rs i r h
 have hPl:∀ i,(P i).length≤100000:=fun i=>by rw [hP];exact Nat.le_trans (puts_len recT _ _) (by rw [List.length_take];omega)
 rw [hPn]
 rw [← hP0] at hGS
 have hnb:n≤100000:=by omega
 clear hP hPn hP0 hlen
 replace hPs:=Lib.hid hPs
 replace hPl:=Lib.hid hPl
 replace hGS:=Lib.hid hGS
 replace hok:=Lib.hid hok
 replace hR:=Lib.hid hR
 replace hn:=Lib.hid hn
 go_enter Tryz.func151,Tryz.ntmps151
 go_wp2
 go_loopw [9] (fun i wr=>∃ (kk:Nat) (S':List Nat),kk≤n∧i=.int .i64 kk∧GS B wr S' gb (P kk) M∧Ext S w S' wr) (fun i _=>(n-intOf i).toNat)
 case atStart=>exact ⟨0,S,by omega,rfl,hGS.out,.refl _ _⟩
 case round =>
  obtain ⟨kk,S1,hk,hi,hGk,hE⟩:=hrel
  subst hi
  by_cases he:kk=n
  ·subst he
   have hpo:=Lib.hid (show ∃ S',GS B wr S' gb (P kk) M∧Ext S w S' wr from ⟨S1,hGk,hE⟩)
   clear hGk hE hk
   go_wp2
   go_returns
   exact ⟨rfl,hpo.out⟩
  have hk0:(0:Int)≤(kk:Int):=by omega
  have hk1:(kk:Int)<(n:Int):=by omega
  have hk2:kk<rs.length:=by have:=hn.out;omega
  obtain ⟨r,hr⟩:∃ r,rs[kk]?=some r:=⟨_,List.getElem?_eq_getElem hk2⟩
  obtain ⟨ga,oa,rfl,hga,hgS,hcc⟩:=hR.out (by omega)
  have hrok:=hok.out r (List.mem_of_getElem? hr)
  obtain ⟨vv,hv,hj⟩:=hcc kk r hr
  obtain ⟨p1,c1,p2,c2,p3,c3,rfl,h1,h2,h3⟩:=hv
  obtain ⟨z1,z2,z3⟩:=hE.at hga hgS
  have y0:wr.cell? ⟨ga,oa+kk*7,none⟩=some (.string r.k):=(World.cell?_of_block (w:=w) (a:=⟨ga,oa+kk*7,none⟩) z1).trans (hj 0 _ rfl)
  have y1:wr.cell? ⟨ga,oa+kk*7+1,none⟩=some (.int .i64 r.cl):=(World.cell?_of_block (w:=w) (a:=⟨ga,oa+kk*7+1,none⟩) z1).trans (hj 1 _ rfl)
  have y2:wr.cell? ⟨ga,oa+kk*7+2,none⟩=some (.int .i64 r.sq):=(World.cell?_of_block (w:=w) (a:=⟨ga,oa+kk*7+2,none⟩) z1).trans (hj 2 _ rfl)
  have y3:wr.cell? ⟨ga,oa+kk*7+3,none⟩=some (.slice p1 r.n c1):=(World.cell?_of_block (w:=w) (a:=⟨ga,oa+kk*7+3,none⟩) z1).trans (hj 3 _ rfl)
  have y4:wr.cell? ⟨ga,oa+kk*7+4,none⟩=some (.bool r.gone):=(World.cell?_of_block (w:=w) (a:=⟨ga,oa+kk*7+4,none⟩) z1).trans (hj 4 _ rfl)
  have y5:wr.cell? ⟨ga,oa+kk*7+5,none⟩=some (.slice p2 r.vs.length c2):=(World.cell?_of_block (w:=w) (a:=⟨ga,oa+kk*7+5,none⟩) z1).trans (hj 5 _ rfl)
  have y6:wr.cell? ⟨ga,oa+kk*7+6,none⟩=some (.slice p3 r.ss.length c3):=(World.cell?_of_block (w:=w) (a:=⟨ga,oa+kk*7+6,none⟩) z1).trans (hj 6 _ rfl)
  replace h1:=h1.ext hE
  replace h2:=h2.ext hE
  replace h3:=h3.ext hE
  have hnx:=hPs.out kk r hr
  have hPk:=hPl.out kk
  have hBw:=Nat.le_trans hB hE.size
  obtain ⟨X,hX0⟩:∃ X,X=recT r:=⟨_,rfl⟩
  have hkey:=klit_key (recT r) (rec_len r hrok)
  have hbr:=br_rec hrok
  have hct0:=fun w1 (hb:Below wr.heap.size wr w1)=>(recText_c r.k r.cl r.sq p1 r.n c1 r.gone p2 r.vs.length c2 p3 r.ss.length c3 r.ds r.vs (by have:=hrok.1;omega) rfl w1 (h1.d.below hb) (h2.b.below hb))
  change ∀ w1,Below wr.heap.size wr w1→Calls _ _ _ w1 (PostL (recT r) w1) at hct0
  have hco0:=fun w1 (hb:Ext S1 wr S1 w1)=>ownRecord_c r p1 c1 p2 c2 p3 c3 hrok w1 (h1.ext hb).d (h2.ext hb).b (h3.ext hb).b
  have hGk2:=Lib.hid hGk
  obtain ⟨l1,m1,l2,m2,g1,g2,g3,g4,g5,g6⟩:=hGk
  have hhas0:=fun w1 (hb:Below wr.heap.size wr w1) (N:Nat) (D:DataW Unit) hD=>hasRec_d gb l1 m1 l2 m2 r p1 c1 p2 c2 p3 c3 hrok w1 (g1.below hb) (h1.d.below hb) (h2.b.below hb) N D hD
  rw [← hX0] at hkey hbr hct0 hhas0
  unfold recV at hco0 hhas0
  have g5':=g5
  obtain ⟨vs,bls,D,a1,a2,a3,a4,a5,a6,a7,a8⟩:=g5'
  have hhl:=a7 X hbr
  have hnil:=hasT_nil (fun r h=>(a8 r h).2)
  obtain ⟨lq,cc,hl1⟩:=own_sl a1
  obtain ⟨N,hN⟩:∃ N,N=(P kk).length:=⟨_,rfl⟩
  rw [← hN] at a1 a5 hl1 hPk
  subst hl1
  replace hkey:=Lib.hid hkey
  replace hct0:=Lib.hid hct0
  replace hco0:=Lib.hid hco0
  replace hhas0:=Lib.hid hhas0
  replace a1:=Lib.hid a1
  replace a2:=Lib.hid a2
  replace a3:=Lib.hid a3
  replace a4:=Lib.hid a4
  replace a5:=Lib.hid a5
  replace a7:=Lib.hid a7
  replace a8:=Lib.hid a8
  replace hhl:=Lib.hid hhl
  replace hnil:=Lib.hid hnil
  replace hnx:=Lib.hid hnx
  replace hX0:=Lib.hid hX0
  replace hN:=Lib.hid hN
  replace hbr:=Lib.hid hbr
  replace g3:=Lib.hid g3
  replace g4:=Lib.hid g4
  replace g5:=Lib.hid g5
  replace g6:=Lib.hid g6
  replace a6:=Lib.hid a6
  replace g2:=Lib.hid g2
  replace hE:=Lib.hid hE
  unfold ghC at g1
  replace hrok:=Lib.hid hrok
  clear he hcc hj z1 z2 z3 hr hk2 hgS hga h1 h2 h3
  go_wp2
  refine at_world (fun W1 hW=>?_)
  have hbW:Below wr.heap.size wr W1:=by rw [hW];go_grown
  have hX:Blk W1 wr.heap.size 45 #[.string r.k,.int .i64 r.cl,.int .i64 r.sq,.slice p1 r.n c1,.bool r.gone,.slice p2 r.vs.length c2,.slice p3 r.ss.length c3]:=by rw [hW];exact Blk.new _ _ _
  clear hW y0 y1 y2 y3 y4 y5 y6
  have hG:=g1.below hbW
  obtain ⟨XB,hXB⟩:∃ XB,XB=wr.heap.size:=⟨_,rfl⟩
  rw [← hXB] at hX ⊢
  have hXBl:wr.heap.size≤XB:=Nat.le_of_eq hXB.symm
  clear hXB
  have hct:=Lib.hid fun w1 (hb:Below W1.heap.size W1 w1)=>hct0.out w1 (hbW.trans (hb.mono hbW.size))
  clear hct0
  refine wp_region_grow5 8 (fun k=>Nat.beq k 6||(Nat.ble 13 k&&Nat.ble k 19)) _ [] (fun a b=>Below a.heap.size a b) (Below.refl _ _).drew below_tr (fun j x' q=>(p3RecL r p1 c1 p2 c2 p3 c3 gb X).getD j (fun _ _=>True) x' q) (fun _=>false) (fun f=>#[.pointer (some ⟨gb,0,none⟩),.slice (some ⟨ga,oa,none⟩) n ca,undef,undef,undef,.pointer (some ⟨XB,0,none⟩),f 6,.slice (some ⟨ga,oa,none⟩) n ca,.int .i64 (n:Int),.int .i64 (kk:Int),.bool true,_,_,f 13,f 14,f 15,f 16,f 17,f 18,f 19,_,_,_,_,_,_,_,_,_,_,_,_,_,_,_,_,_,_,_,_,_,_,_,_,_,_,_,_,_,_,_,_,_]) (fun f=>rfl) (by kernel_rfl) (by kernel_rfl) (by kernel_rfl) (by kernel_rfl) (by kernel_rfl) (p3RecS _ _ _ _ _ _ _ _ _) (fun _ _ _ h=>by cases h) ?_ ?_
  ·refine steps5_cons ?_ ?_
   ·intro f w1 hb hd Q hK
    clear hd
    have hK:=Lib.hid hK
    go_wp2
    exact hK.out _ _ rfl (.refl _ _) nof
   refine steps5_cons ?_ ?_
   ·intro f w1 hb hd Q hK
    have e13:f 13=.pointer (some ⟨gb,0,none⟩):=hd.1 rfl
    clear hd
    simp only [e13] at hK
    have hK:=Lib.hid hK
    go_wp2
    exact hK.out _ _ rfl (.refl _ _) nof
   refine steps5_cons ?_ ?_
   ·intro f w1 hb hd Q hK
    have e14:f 14=.pointer (some ⟨gb,0,none⟩):=hd.1 rfl
    clear hd
    simp only [e14] at hK
    have hK:=Lib.hid hK
    go_wp2
    exact hK.out _ _ rfl (.refl _ _) nof
   refine steps5_cons ?_ ?_
   ·intro f w1 hb hd Q hK
    have e15:f 15=.pointer (some ⟨gb,2,none⟩):=hd.1 rfl
    clear hd
    simp only [e15] at hK
    have hK:=Lib.hid hK
    have c0:=(hG.below hb).cell 2
    simp only [List.getElem?_toArray,List.getElem?_cons_zero,List.getElem?_cons_succ] at c0
    go_wp2
    exact hK.out _ _ rfl (.refl _ _) nof
   refine steps5_cons ?_ ?_
   ·intro f w1 hb hd Q hK
    clear hd
    have hK:=Lib.hid hK
    obtain ⟨c0,c1,c2,c3,c4,c5,c6⟩:=blk7 (hX.below hb)
    go_wp2
    exact hK.out _ _ rfl (.refl _ _) nof
   refine steps5_cons ?_ ?_
   ·intro f w1 hb hd Q hK
    have e16:f 16=.func (.func 64) #[] #[]:=hd.1 rfl
    have e17:f 17=.agg #[.string r.k,.int .i64 r.cl,.int .i64 r.sq,.slice p1 r.n c1,.bool r.gone,.slice p2 r.vs.length c2,.slice p3 r.ss.length c3]:=hd.2.1 rfl
    clear hd
    simp only [e16,e17] at hK
    have hK:=Lib.hid hK
    go_wp2_with fail
    refine (hct.out _ hb).mono ?_
    rintro e w2 ⟨r',m,c2',rfl,hm,hR,hb2,-⟩
    replace hm:=Lib.hid hm
    go_wp2
    exact hK.out _ _ ⟨_,_,_,rfl,hm.out,hR⟩ hb2 nof
   refine steps5_cons ?_ ?_
   ·intro f w1 hb hd Q hK
    obtain ⟨p18,n18,c18,e18,l18,b18⟩:=(hd.1 rfl:SlL X (f 18) w1)
    replace l18:=Lib.hid l18
    replace b18:=Lib.hid b18
    clear hd
    simp only [e18] at hK
    have hK:=Lib.hid hK
    have kc:=conv_str w1 p18 n18 c18 X l18.out b18.out
    go_wp2
    exact hK.out _ _ rfl (.refl _ _) nof
   refine steps5_cons ?_ ?_
   ·intro f w1 hb hd Q hK
    have e19:f 19=.string (strOfNums X):=hd.1 rfl
    clear hd
    simp only [e19] at hK
    have hK:=Lib.hid hK
    go_wp2
    exact hK.out _ _ rfl (.refl _ _) nof
   trivial
  intro f3 w3 hb3 hf3 hne3
  refine wpList_nil ?_
  have d6:f3 6=.string (strOfNums X):=hf3 7 _ _ (by decide) rfl rfl
  simp only [d6]
  clear hf3 hne3 hct d6
  replace hG:=hG.below hb3
  replace hX:=hX.below hb3
  have hb0:=hbW.trans (hb3.mono hbW.size)
  clear hb3 hbW
  obtain ⟨s,hs⟩:∃ s,s=strOfNums X:=⟨_,rfl⟩
  rw [← hs] at hkey ⊢
  have hse:s.toList.isEmpty=decide (X=[]):=by rw [hs];exact str_empty X
  replace hs:=Lib.hid hs
  by_cases hXe:X=[]
  ·rw [decide_eq_true hXe] at hse
   have hp:=Lib.hid (show P (kk+1)=P kk by rw [hnx.out];unfold putT;rw [if_pos (.inl (by rw [← hX0.out];exact hXe))])
   have hfin:=Lib.hid (show GS B w3 S1 gb (P kk) M∧Ext S w S1 w3 from ⟨hGk2.out.below hb0,hE.out.trans (.below hb0)⟩)
   clear hXe hX hG hb0 hBw hXBl
   go_wp2
   exact ⟨⟨kk+1,S1,by omega,rfl,by rw [hp.out];exact hfin.out.1,hfin.out.2⟩,by simp [intOf];omega⟩
  rw [decide_eq_false hXe] at hse
  replace hXe:=Lib.hid hXe
  have hha:=hhas0.out w3 hb0 N D (a5.out.kept (w':=w3) (row:=none) ⟨hb0.os,hb0.tape,hb0.output,hb0.size,fun k hk _=>hb0.block k hk⟩ (by simp))
  rw [hhl.out] at hha
  obtain ⟨x0,x1,x2,x3,x4,x5,x6⟩:=blk7 hX
  cases hh:hasT recT (P kk) X
  case' true=>rw [hh] at hha
  case' false=>rw [hh] at hha
  all_goals replace hha:=Lib.hid hha
  ·go_wp2_with fail
   clear x0 x1 x2 x3 x4 x5 x6
   have hp:=Lib.hid (show P (kk+1)=P kk++[r] by rw [hnx.out];unfold putT;rw [if_neg];rw [← hX0.out];exact fun h=>h.elim hXe.out (fun h=>by rw [hh] at h;cases h))
   have hXl:=Lib.hid (show X.length≤2000000 by rw [hX0.out];exact rec_len r hrok.out)
   clear hh
   refine hha.out.mono ?_
   rintro e w4 ⟨rfl,hb4⟩
   replace hG:=hG.below hb4
   replace hX:=hX.below hb4
   replace hb0:=hb0.trans (hb4.mono hb0.size)
   clear hb4 hha
   go_wp2_with fail
   refine wp_region_grow5 10 (fun k=>(Nat.ble 27 k&&Nat.ble k 36)) _ [] (fun a b=>Below a.heap.size a b) (Below.refl _ _).drew below_tr (fun j x' q=>(p5RecL gb m1 N cc lq s).getD j (fun _ _=>True) x' q) (fun _=>false) (fun f=>#[.pointer (some ⟨gb,0,none⟩),.slice (some ⟨ga,oa,none⟩) n ca,undef,undef,undef,.pointer (some ⟨XB,0,none⟩),.string s,.slice (some ⟨ga,oa,none⟩) n ca,.int .i64 (n:Int),.int .i64 (kk:Int),.bool true,_,_,_,_,_,_,_,_,_,_,_,_,_,_,_,_,f 27,f 28,f 29,f 30,f 31,f 32,f 33,f 34,f 35,f 36,_,_,_,_,_,_,_,_,_,_,_,_,_,_,_,_]) (fun f=>rfl) (by kernel_rfl) (by kernel_rfl) (by kernel_rfl) (by kernel_rfl) (by kernel_rfl) (p5RecS _ _ _ _ _ _) (fun _ _ _ h=>by cases h) ?_ ?_
   ·refine steps5_cons ?_ ?_
    ·intro f w1 hb hd Q hK
     clear hd
     have hK:=Lib.hid hK
     go_wp2
     exact hK.out _ _ rfl (.refl _ _) nof
    refine steps5_cons ?_ ?_
    ·intro f w1 hb hd Q hK
     have e27:f 27=.pointer (some ⟨gb,0,none⟩):=hd.1 rfl
     clear hd
     simp only [e27] at hK
     have hK:=Lib.hid hK
     go_wp2
     exact hK.out _ _ rfl (.refl _ _) nof
    refine steps5_cons ?_ ?_
    ·intro f w1 hb hd Q hK
     have e28:f 28=.pointer (some ⟨gb,0,none⟩):=hd.1 rfl
     clear hd
     simp only [e28] at hK
     have hK:=Lib.hid hK
     go_wp2
     exact hK.out _ _ rfl (.refl _ _) nof
    refine steps5_cons ?_ ?_
    ·intro f w1 hb hd Q hK
     have e29:f 29=.pointer (some ⟨gb,1,none⟩):=hd.1 rfl
     clear hd
     simp only [e29] at hK
     have hK:=Lib.hid hK
     have c0:=(hG.below hb).cell 1
     simp only [List.getElem?_toArray,List.getElem?_cons_zero,List.getElem?_cons_succ] at c0
     go_wp2
     exact hK.out _ _ rfl (.refl _ _) nof
    refine steps5_cons ?_ ?_
    ·intro f w1 hb hd Q hK
     clear hd
     have hK:=Lib.hid hK
     go_wp2
     exact hK.out _ _ rfl (.refl _ _) nof
    refine steps5_cons ?_ ?_
    ·intro f w1 hb hd Q hK
     clear hd
     have hK:=Lib.hid hK
     go_wp2
     exact hK.out _ _ rfl (.refl _ _) nof
    refine steps5_cons ?_ ?_
    ·intro f w1 hb hd Q hK
     have e32:f 32=.pointer (some ⟨gb,0,none⟩):=hd.1 rfl
     clear hd
     simp only [e32] at hK
     have hK:=Lib.hid hK
     go_wp2
     exact hK.out _ _ rfl (.refl _ _) nof
    refine steps5_cons ?_ ?_
    ·intro f w1 hb hd Q hK
     have e33:f 33=.pointer (some ⟨gb,0,none⟩):=hd.1 rfl
     clear hd
     simp only [e33] at hK
     have hK:=Lib.hid hK
     go_wp2
     exact hK.out _ _ rfl (.refl _ _) nof
    refine steps5_cons ?_ ?_
    ·intro f w1 hb hd Q hK
     have e34:f 34=.pointer (some ⟨gb,0,none⟩):=hd.1 rfl
     clear hd
     simp only [e34] at hK
     have hK:=Lib.hid hK
     have c0:=(hG.below hb).cell 0
     simp only [List.getElem?_toArray,List.getElem?_cons_zero] at c0
     go_wp2
     exact hK.out _ _ rfl (.refl _ _) nof
    refine steps5_cons ?_ ?_
    ·intro f w1 hb hd Q hK
     have e35:f 35=.slice lq N cc:=hd.1 rfl
     clear hd
     simp only [e35] at hK
     have hK:=Lib.hid hK
     go_wp2
     exact hK.out _ _ rfl (.refl _ _) nof
    trivial
   intro f5 w5 hb5 hf5 hne5
   have d30:f5 30=.map (some m1):=hf5 3 _ _ (by decide) rfl rfl
   have d31:f5 31=.string s:=hf5 4 _ _ (by decide) rfl rfl
   have d36:f5 36=.int .i64 (N:Int):=hf5 9 _ _ (by decide) rfl rfl
   simp only [d30,d31,d36]
   clear hf5 hne5 d30 d31 d36
   replace hG:=hG.below hb5
   replace hX:=hX.below hb5
   replace hb0:=hb0.trans (hb5.mono hb0.size)
   clear hb5
   have ho5:=Lib.hid (a5.out.kept (w':=w5) (row:=none) ⟨hb0.os,hb0.tape,hb0.output,hb0.size,fun k hk _=>hb0.block k hk⟩ (by simp))
   have hNm:N<maxLen:=by unfold maxLen;omega
   have hwf:(Lit.int .i64 (N:Int)).wf=true:=WalkArith.wf_i64 (by omega)
   replace hwf:=Lib.hid hwf
   have hme:=ghost_ne_map hG ho5.out
   have hxe:=ghost_ne_map hX ho5.out
   replace hme:=Lib.hid hme
   replace hxe:=Lib.hid hxe
   refine wpList_mapUpdate_own _ rfl _ _ _ 179 rfl 9 3 law map_under _ m1 N D rfl ho5.out hNm _ _ _ rfl rfl hkey.out _ [] (plainElem_int int_under hwf.out) ?_
   intro w6 hm6 hg6
   replace hm6:=Lib.hid hm6
   replace hg6:=Lib.hid hg6
   go_wp2
   replace hG:=hG.grown hg6.out (fun h=>hme.out (Option.some.inj h))
   replace hX:=hX.grown hg6.out (fun h=>hxe.out (Option.some.inj h))
   have K6:Kept [m1] wr w6:=(Kept.below hb0 _).trans (Kept.grown hg6.out (fun g h=>by injection h with h;simp [h]))
   have E6:Ext S1 wr S1 w6:=K6.ext (fun g hg=>.inl (by have:=a6.out;simp at hg;rw [hg];exact this)) (fun _ h=>.inl h)
   have hco:=Lib.hid fun w1 (hb:Below w6.heap.size w6 w1)=>hco0.out w1 (E6.trans (.below hb))
   have hB6:=Nat.le_trans hBw K6.size
   obtain ⟨B0,hB0e⟩:∃ B0,B0=w6.heap.size:=⟨_,rfl⟩
   have hB0:=Nat.le_of_eq hB0e
   replace hB0e:=Lib.hid hB0e
   clear hco0 hme hxe K6 E6 ho5 hNm hwf hGk2 hhas0 hXBl
   refine wp_region_grow6 12 0 (fun k=>(Nat.ble 37 k&&Nat.ble k 48)) _ [] (fun j x' q=>(p6RecL r p1 c1 p2 c2 p3 c3 gb N cc lq B0).getD j (fun _ _=>True) x' q) (fun _=>false) (fun f=>#[.pointer (some ⟨gb,0,none⟩),.slice (some ⟨ga,oa,none⟩) n ca,undef,undef,undef,.pointer (some ⟨XB,0,none⟩),.string s,.slice (some ⟨ga,oa,none⟩) n ca,.int .i64 (n:Int),.int .i64 (kk:Int),.bool true,_,_,_,_,_,_,_,_,_,_,_,_,_,_,_,_,_,_,_,_,_,_,_,_,_,_,f 37,f 38,f 39,f 40,f 41,f 42,f 43,f 44,f 45,f 46,f 47,f 48,_,_,_,_]) (fun f=>rfl) (by decide) (by kernel_rfl) (by kernel_rfl) (by kernel_rfl) (by kernel_rfl) (by kernel_rfl) (p6RecS _ _ _ _ _ _ _ _ _ _ _ _) ?_ ?_ ?_
   ·refine steps2_cons ?_ ?_
    ·intro f w1 hb hd Q hK
     clear hd
     have hK:=Lib.hid hK
     go_wp2
     exact hK.out _ _ rfl (.refl _ _) nof
    refine steps2_cons ?_ ?_
    ·intro f w1 hb hd Q hK
     clear hd
     have hK:=Lib.hid hK
     go_wp2
     exact hK.out _ _ rfl (.refl _ _) nof
    refine steps2_cons ?_ ?_
    ·intro f w1 hb hd Q hK
     have e38:f 38=.pointer (some ⟨gb,0,none⟩):=hd.1 rfl
     clear hd
     simp only [e38] at hK
     have hK:=Lib.hid hK
     go_wp2
     exact hK.out _ _ rfl (.refl _ _) nof
    refine steps2_cons ?_ ?_
    ·intro f w1 hb hd Q hK
     have e39:f 39=.pointer (some ⟨gb,0,none⟩):=hd.1 rfl
     clear hd
     simp only [e39] at hK
     have hK:=Lib.hid hK
     go_wp2
     exact hK.out _ _ rfl (.refl _ _) nof
    refine steps2_cons ?_ ?_
    ·intro f w1 hb hd Q hK
     have e40:f 40=.pointer (some ⟨gb,0,none⟩):=hd.1 rfl
     clear hd
     simp only [e40] at hK
     have hK:=Lib.hid hK
     have c0:=(hG.below hb).cell 0
     simp only [List.getElem?_toArray,List.getElem?_cons_zero] at c0
     go_wp2
     exact hK.out _ _ rfl (.refl _ _) nof
    refine steps2_cons ?_ ?_
    ·intro f w1 hb hd Q hK
     clear hd
     have hK:=Lib.hid hK
     go_wp2
     exact hK.out _ _ rfl (.refl _ _) nof
    refine steps2_cons ?_ ?_
    ·intro f w1 hb hd Q hK
     have e42:f 42=.pointer (some ⟨gb,0,none⟩):=hd.1 rfl
     clear hd
     simp only [e42] at hK
     have hK:=Lib.hid hK
     go_wp2
     exact hK.out _ _ rfl (.refl _ _) nof
    refine steps2_cons ?_ ?_
    ·intro f w1 hb hd Q hK
     have e43:f 43=.pointer (some ⟨gb,0,none⟩):=hd.1 rfl
     clear hd
     simp only [e43] at hK
     have hK:=Lib.hid hK
     go_wp2
     exact hK.out _ _ rfl (.refl _ _) nof
    refine steps2_cons ?_ ?_
    ·intro f w1 hb hd Q hK
     have e44:f 44=.pointer (some ⟨gb,3,none⟩):=hd.1 rfl
     clear hd
     simp only [e44] at hK
     have hK:=Lib.hid hK
     have c0:=(hG.below hb).cell 3
     simp only [List.getElem?_toArray,List.getElem?_cons_zero,List.getElem?_cons_succ] at c0
     go_wp2
     exact hK.out _ _ rfl (.refl _ _) nof
    refine steps2_cons ?_ ?_
    ·intro f w1 hb hd Q hK
     clear hd
     have hK:=Lib.hid hK
     obtain ⟨c0,c1,c2,c3,c4,c5,c6⟩:=blk7 (hX.below hb)
     go_wp2
     exact hK.out _ _ rfl (.refl _ _) nof
    refine steps2_cons ?_ ?_
    ·intro f w1 hb hd Q hK
     have e45:f 45=.func (.func 147) #[] #[]:=hd.1 rfl
     have e46:f 46=.agg #[.string r.k,.int .i64 r.cl,.int .i64 r.sq,.slice p1 r.n c1,.bool r.gone,.slice p2 r.vs.length c2,.slice p3 r.ss.length c3]:=hd.2.1 rfl
     clear hd
     simp only [e45,e46] at hK
     have hK:=Lib.hid hK
     go_wp2_with fail
     refine (hco.out _ hb).mono ?_
     rintro e w2 ⟨v2,bl2,rfl,ho2,-,hb2⟩
     replace ho2:=Lib.hid ho2
     go_wp2
     exact hK.out _ _ ⟨_,ho2.out.mono (Nat.le_trans hB0 hb.size)⟩ hb2 nof
    refine steps2_cons ?_ ?_
    ·intro f w1 hb hd Q hK
     obtain ⟨bl47,pp1,cc1,pp2,cc2,pp3,cc3,e47,o1,o2,o3,hbl⟩:=(hd.1 rfl:OwnV RecO B0 r (f 47) w1)
     unfold recV at e47
     have hro:=Lib.hid (show RecO B0 w1 (recV r pp1 cc1 pp2 cc2 pp3 cc3) r bl47 from ⟨_,_,_,_,_,_,rfl,o1,o2,o3,hbl⟩)
     clear o1 o2 o3 hbl
     clear hd
     simp only [e47] at hK
     have hK:=Lib.hid hK
     have hsz:=Nat.le_trans hB0 hb.size
     go_wp2
     exact hK.out _ _ ⟨_,_,_,rfl,hsz,Blk.new _ _ _,hro.out.ext (S:=[]) (S':=[]) (.below ((Below.refl _ _).alloc (Nat.le_refl _) _)) (fun _ _ h=>by cases h)⟩ ((Below.refl _ _).alloc (Nat.le_refl _) _) nof
    trivial
   ·intro f w1 hb hf
    have d41:f 41=.slice lq N cc:=hf 4 _ _ (by decide) rfl rfl
    obtain ⟨g48,v48,bl48,e48,lo48,bk48,ro48⟩:Sl1 RecO 45 B0 r (f 48) w1:=hf 11 _ _ (by decide) rfl rfl
    have d37:f 37=.pointer (some ⟨gb,0,none⟩):=hf 0 _ _ (by decide) rfl rfl
    simp only [d41,e48,d37]
    clear hf d41 e48 d37 hco
    have hG1:=hG.below hb
    have ho1:=Lib.hid (put_ownRec a1.out a5.out hb0 hg6.out hb)
    have hB1:=Nat.le_trans hB6 hb.size
    have hrw:=Lib.hid (blk_ne_row hG1 ho1.out (by decide))
    refine wpList_appRec rfl rfl rfl ho1.out rfl bk48 (rec_cells ro48) (by omega) hB1 ?_
    intro v7 w7 ho7 hg7 hl7
    obtain ⟨p7,c7,rfl⟩:=own_sl ho7
    have hG7:=hG1.grown hg7 (fun h=>hrw.out h.symm)
    have c0:=(blk8 hG7).1
    have fz:=fun j=>hG7.frozen j
    replace ho7:=Lib.hid ho7
    replace hg7:=Lib.hid hg7
    replace hl7:=Lib.hid hl7
    go_wp2
    obtain ⟨S2,hS2,hE2⟩:=put_endRec (d:=_) hN.out hBw g1 g2.out g3.out g4.out g6.out a1.out a2.out a3.out a4.out a5.out a6.out a7.out a8.out hb0 hm6.out hg6.out hb ro48 hB0e.out ho7.out hg7.out hl7.out hrok.out hX0.out hXe.out hXl.out
    exact ⟨⟨kk+1,S2,by omega,rfl,by rw [hp.out];exact hS2,hE.out.trans hE2⟩,by simp [intOf];omega⟩
   intro f w1 hb hf on oe hon hoe
   cases hon
   cases hoe
   have d41:f 41=.slice lq N cc:=hf 4 _ _ (by decide) (by decide) rfl rfl
   obtain ⟨g48,v48,bl48,e48,lo48,bk48,ro48⟩:Sl1 RecO 45 B0 r (f 48) w1:=hf 11 _ _ (by decide) (by decide) rfl rfl
   simp only [d41,e48]
   clear hf d41 e48 hco
   have hG1:=hG.below hb
   have ho1:=Lib.hid (put_ownRec a1.out a5.out hb0 hg6.out hb)
   have hB1:=Nat.le_trans hB6 hb.size
   have hrw:=Lib.hid (blk_ne_row hG1 ho1.out (by decide))
   refine wpList_appRec rfl rfl rfl ho1.out rfl bk48 (rec_cells ro48) (by omega) hB1 ?_
   intro v7 w7 ho7 hg7 hl7
   obtain ⟨p7,c7,rfl⟩:=own_sl ho7
   have hG7:=hG1.grown hg7 (fun h=>hrw.out h.symm)
   have c0:=(blk8 hG7).1
   have fz:=fun j=>hG7.frozen j
   replace ho7:=Lib.hid ho7
   replace hg7:=Lib.hid hg7
   replace hl7:=Lib.hid hl7
   go_wp2
   obtain ⟨S2,hS2,hE2⟩:=put_endRec (d:=_) hN.out hBw g1 g2.out g3.out g4.out g6.out a1.out a2.out a3.out a4.out a5.out a6.out a7.out a8.out hb0 hm6.out hg6.out hb ro48 hB0e.out ho7.out hg7.out hl7.out hrok.out hX0.out hXe.out hXl.out
   exact ⟨⟨kk+1,S2,by omega,rfl,by rw [hp.out];exact hS2,hE.out.trans hE2⟩,by simp [intOf];omega⟩
  go_wp2_with fail
  clear x0 x1 x2 x3 x4 x5 x6
  refine hha.out.mono ?_
  rintro e w4 ⟨rfl,hb4⟩
  have hp:=Lib.hid (show P (kk+1)=P kk by rw [hnx.out];unfold putT;rw [if_pos (.inr (by rw [← hX0.out];exact hh))])
  have hb5:=hb0.trans (hb4.mono hb0.size)
  have hfin:=Lib.hid (show GS B w4 S1 gb (P kk) M∧Ext S w S1 w4 from ⟨hGk2.out.below hb5,hE.out.trans (.below hb5)⟩)
  clear hX hG hb0 hBw hXBl hb4 hb5 hh hha
  go_wp2
  exact ⟨⟨kk+1,S1,by omega,rfl,by rw [hp.out];exact hfin.out.1,hfin.out.2⟩,by simp [intOf];omega⟩
end Go.Proofs.YtnopjabcdloepaaGreatDoor.Rc
