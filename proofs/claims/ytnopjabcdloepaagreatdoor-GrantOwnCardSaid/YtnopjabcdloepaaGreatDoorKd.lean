import Derived.Test.YtnopjabcdloepaaGreatDoorKb
import Derived.Lib.ConvBytes
import Derived.Laws.BytesArg
import Derived.Test.YtnopjabcdloepaaGreatDoorYb
namespace Go.Proofs.YtnopjabcdloepaaGreatDoor.Rc
open Go.RowKit
structure Ext (S:List Nat) (w:World) (S':List Nat) (w':World):Prop where
 os:w'.os=w.os
 tape:w'.tape=w.tape
 output:w'.output=w.output
 size:w.heap.size≤w'.heap.size
 block:∀ k,k<w.heap.size→k ∉ S→w'.heap[k]?=w.heap[k]?
 sub:∀ k,k∈S'→k∈S∨w.heap.size≤k
theorem Ext.of {S S':List Nat} {w w':World} (hb:Below w.heap.size w w') (hS:∀ k,k∈S'→k∈S):Ext S w S' w':=⟨hb.os,hb.tape,hb.output,hb.size,fun k hk _=>hb.block k hk,fun k hk=>.inl (hS k hk)⟩
theorem Ext.below {S:List Nat} {w w':World} (hb:Below w.heap.size w w'):Ext S w S w':=.of hb fun _ h=>h
theorem Ext.refl (S:List Nat) (w:World):Ext S w S w:=.below (Below.refl _ _)
theorem Ext.trans {S S' S'':List Nat} {w w' w'':World} (h:Ext S w S' w') (k:Ext S' w' S'' w''):Ext S w S'' w'' :=
 ⟨k.os.trans h.os,k.tape.trans h.tape,k.output.trans h.output,Nat.le_trans h.size k.size,fun j hj hS=>(k.block j (Nat.lt_of_lt_of_le hj h.size) (fun hs=>(h.sub j hs).elim hS (fun h2=>by omega))).trans (h.block j hj hS),
  fun j hj=>(k.sub j hj).elim (fun h2=>h.sub j h2) (fun h2=>.inr (Nat.le_trans h.size h2))⟩
theorem Ext.old {S S':List Nat} {w w':World} {B:Nat} (h:Ext S w S' w') (hB:B≤w.heap.size) (hS:∀ k,k∈S→B≤k):Below B w w':=⟨h.os,h.tape,h.output,h.size,fun k hk=>h.block k (by omega) (fun hs=>by have:=hS k hs;omega)⟩
theorem Ext.at {S S':List Nat} {w w':World} (h:Ext S w S' w') {g:Nat} (hg:g<w.heap.size) (hS:g ∉ S):w'.heap[g]?=w.heap[g]?∧g ∉ S'∧g<w'.heap.size :=
 ⟨h.block g hg hS,fun hs=>(h.sub g hs).elim hS (fun h2=>by omega),Nat.lt_of_lt_of_le hg h.size⟩
def RowF (S:List Nat) (w:World) (p:Option Addr) (m:Nat) (f:Nat→Value):Prop:=0<m→∃ g o,p=some ⟨g,o,none⟩∧g<w.heap.size∧g ∉ S∧∀ j,j<m→w.cell? ⟨g,o+j,none⟩=some (f j)
theorem RowF.row {S:List Nat} {w:World} {p:Option Addr} {m:Nat} {f:Nat→Value} (h:RowF S w p m f):RowAt w p m f:=fun hm=>by
 obtain ⟨g,o,e,hg,_,hc⟩:=h hm
 exact ⟨g,o,e,hg,hc⟩
theorem RowF.ext {S S':List Nat} {w w':World} {p:Option Addr} {m:Nat} {f:Nat→Value} (h:RowF S w p m f) (hb:Ext S w S' w'):RowF S' w' p m f:=fun hm=>by
 obtain ⟨g,o,e,hg,hS,hc⟩:=h hm
 obtain ⟨h1,h2,h3⟩:=hb.at hg hS
 exact ⟨g,o,e,h3,h2,fun j hj=>(World.cell?_of_block (w:=w) (a:=⟨g,o+j,none⟩) h1).trans (hc j hj)⟩
theorem RowF.of_row {w:World} {p:Option Addr} {m:Nat} {f:Nat→Value} (h:RowAt w p m f):RowF [] w p m f:=fun hm=>by
 obtain ⟨g,o,e,hg,hc⟩:=h hm
 exact ⟨g,o,e,hg,by simp,hc⟩
def BF (S:List Nat) (w:World) (p:Option Addr) (xs:List Int):Prop:=RowF S w p xs.length (fun j=>.int .u8 (xs.getD j 0))
def DF (S:List Nat) (w:World) (p:Option Addr) (n:Nat) (ds:List Int):Prop:=ds.length=2*n∧RowF S w p (2*n) (fun j=>.int .i64 (ds.getD j 0))
theorem BF.b {S:List Nat} {w:World} {p:Option Addr} {xs:List Int} (h:BF S w p xs):BytesL w p xs:=RowF.row h
theorem DF.d {S:List Nat} {w:World} {p:Option Addr} {n:Nat} {ds:List Int} (h:DF S w p n ds):DotsL w p n ds:=⟨h.1,RowF.row h.2⟩
theorem BF.ext {S S':List Nat} {w w':World} {p:Option Addr} {xs:List Int} (h:BF S w p xs) (hb:Ext S w S' w'):BF S' w' p xs:=RowF.ext h hb
theorem DF.ext {S S':List Nat} {w w':World} {p:Option Addr} {n:Nat} {ds:List Int} (h:DF S w p n ds) (hb:Ext S w S' w'):DF S' w' p n ds:=⟨h.1,RowF.ext h.2 hb⟩
def BR (xs:List Int):Prop:=∀ x∈xs,0≤x∧x<256
structure RecD where
 k:ByteArray
 cl:Int
 sq:Int
 n:Nat
 ds:List Int
 gone:Bool
 vs:List Int
 ss:List Int
structure RootD where
 r:Int
 h:Int
 q:Int
 sum:List Int
 sig:List Int
def RecD.ok (r:RecD):Prop:=r.n≤100000∧r.vs.length≤100000∧r.ss.length≤100000∧BR r.vs∧BR r.ss
def RootD.ok (r:RootD):Prop:=r.sum.length≤100000∧r.sig.length≤100000∧BR r.sum∧BR r.sig
def recV (r:RecD) (p1:Option Addr) (c1:Nat) (p2:Option Addr) (c2:Nat) (p3:Option Addr) (c3:Nat):Value:=.agg #[.string r.k,.int .i64 r.cl,.int .i64 r.sq,.slice p1 r.n c1,.bool r.gone,.slice p2 r.vs.length c2,.slice p3 r.ss.length c3]
def rootV (r:RootD) (p1:Option Addr) (c1:Nat) (p2:Option Addr) (c2:Nat):Value:=.agg #[.int .i64 r.r,.int .i64 r.h,.int .i64 r.q,.slice p1 r.sum.length c1,.slice p2 r.sig.length c2]
def RecF (S:List Nat) (w:World) (v:Value) (r:RecD):Prop:=∃ p1 c1 p2 c2 p3 c3,v=recV r p1 c1 p2 c2 p3 c3∧DF S w p1 r.n r.ds∧BF S w p2 r.vs∧BF S w p3 r.ss
def RootF (S:List Nat) (w:World) (v:Value) (r:RootD):Prop:=∃ p1 c1 p2 c2,v=rootV r p1 c1 p2 c2∧BF S w p1 r.sum∧BF S w p2 r.sig
theorem RecF.ext {S S':List Nat} {w w':World} {v:Value} {r:RecD} (h:RecF S w v r) (hb:Ext S w S' w'):RecF S' w' v r:=by
 obtain ⟨p1,c1,p2,c2,p3,c3,e,h1,h2,h3⟩:=h
 exact ⟨p1,c1,p2,c2,p3,c3,e,h1.ext hb,h2.ext hb,h3.ext hb⟩
theorem RootF.ext {S S':List Nat} {w w':World} {v:Value} {r:RootD} (h:RootF S w v r) (hb:Ext S w S' w'):RootF S' w' v r:=by
 obtain ⟨p1,c1,p2,c2,e,h1,h2⟩:=h
 exact ⟨p1,c1,p2,c2,e,h1.ext hb,h2.ext hb⟩
def ob (p:Option Addr):List Nat:=match p with | none=>[] | some a=>[a.block]
def RecO (B:Nat) (w:World) (v:Value) (r:RecD) (bl:List Nat):Prop:=∃ p1 c1 p2 c2 p3 c3,v=recV r p1 c1 p2 c2 p3 c3∧w.ownsRow B 175 2 (.slice p1 r.n c1) r.n (dotL r.ds)∧w.ownsRow B 5 1 (.slice p2 r.vs.length c2) r.vs.length (bL r.vs)∧w.ownsRow B 5 1 (.slice p3 r.ss.length c3) r.ss.length (bL r.ss)∧bl=ob p1++ob p2++ob p3
def RootO (B:Nat) (w:World) (v:Value) (r:RootD) (bl:List Nat):Prop:=∃ p1 c1 p2 c2,v=rootV r p1 c1 p2 c2∧w.ownsRow B 5 1 (.slice p1 r.sum.length c1) r.sum.length (bL r.sum)∧w.ownsRow B 5 1 (.slice p2 r.sig.length c2) r.sig.length (bL r.sig)∧bl=ob p1++ob p2
theorem own_ext {S S':List Nat} {w w':World} {B:Nat} {e:TypeId} {size:Nat} {v:Value} {n:Nat} {xs:List Value} (h:w.ownsRow B e size v n xs) (hb:Ext S w S' w') (hS:∀ g,v.ownBlock=some g→g ∉ S):w'.ownsRow B e size v n xs:=by
 refine ⟨h.1,h.2.imp id ?_⟩
 rintro ⟨g,cap,cur,rfl,h1,h2,h3⟩
 exact ⟨g,cap,cur,rfl,h1,(hb.block g (Array.getElem?_eq_some_iff.1 h2).1 (hS g rfl)).trans h2,h3⟩
theorem own_ob {w:World} {B:Nat} {e:TypeId} {size:Nat} {p:Option Addr} {m c n:Nat} {xs:List Value} (h:w.ownsRow B e size (.slice p m c) n xs):∀ g,g∈ob p→B≤g∧g<w.heap.size:=by
 intro g hg
 rcases h.2 with ⟨e,_⟩ | ⟨g',cap,cur,e,h1,h2,h3⟩
 ·injection e with e;subst e;simp [ob] at hg
 injection e with e
 subst e
 have:g=g':=by simpa [ob] using hg
 subst this
 exact ⟨h1,(Array.getElem?_eq_some_iff.1 h2).1⟩
theorem ob_own {p:Option Addr} {m c g:Nat} (h:(Value.slice p m c).ownBlock=some g):g∈ob p:=by
 cases p with
 | none=>simp [Value.ownBlock] at h
 | some a=>simpa [ob,Value.ownBlock,eq_comm] using h
theorem own_BF {S:List Nat} {w:World} {B:Nat} {p:Option Addr} {c:Nat} {xs:List Int} (h:w.ownsRow B 5 1 (.slice p xs.length c) xs.length (bL xs)) (hS:∀ g,g∈ob p→g ∉ S):BF S w p xs:=by
 rcases h.2 with ⟨e,e2⟩ | ⟨g,cap,cur,e,h1,h2,h3,h4,h5,h6⟩
 ·exact fun hm=>absurd hm (by omega)
 injection e with e _ e3
 subst e e3
 refine fun _=>⟨g,0,rfl,(Array.getElem?_eq_some_iff.1 h2).1,hS g (by simp [ob]),fun j hj=>?_⟩
 rw [Nat.zero_add,h.cellAt j (by omega)]
 simp [bL,hj]
theorem own_DF {S:List Nat} {w:World} {B:Nat} {p:Option Addr} {n c:Nat} {ds:List Int} (h:w.ownsRow B 175 2 (.slice p n c) n (dotL ds)) (hS:∀ g,g∈ob p→g ∉ S):DF S w p n ds:=by
 have hl:ds.length=2*n:=by have:=h.1;rw [dotL_len] at this;omega
 rcases h.2 with ⟨e,e2⟩ | ⟨g,cap,cur,e,h1,h2,h3,h4,h5,h6⟩
 ·exact ⟨hl,fun hm=>absurd hm (by omega)⟩
 injection e with e _ e3
 subst e e3
 refine ⟨hl,fun _=>⟨g,0,rfl,(Array.getElem?_eq_some_iff.1 h2).1,hS g (by simp [ob]),fun j hj=>?_⟩⟩
 rw [Nat.zero_add,h.cellAt j (by omega)]
 have hj2:j<ds.length:=by omega
 simp [dotL,hj2]
theorem RecO.f {B:Nat} {w:World} {v:Value} {r:RecD} {bl S:List Nat} (h:RecO B w v r bl) (hS:∀ g,g∈bl→g ∉ S):RecF S w v r:=by
 obtain ⟨p1,c1,p2,c2,p3,c3,e,h1,h2,h3,e2⟩:=h
 subst e2
 exact ⟨p1,c1,p2,c2,p3,c3,e,own_DF h1 (fun g hg=>hS g (by simp [hg])),own_BF h2 (fun g hg=>hS g (by simp [hg])),own_BF h3 (fun g hg=>hS g (by simp [hg]))⟩
theorem RootO.f {B:Nat} {w:World} {v:Value} {r:RootD} {bl S:List Nat} (h:RootO B w v r bl) (hS:∀ g,g∈bl→g ∉ S):RootF S w v r:=by
 obtain ⟨p1,c1,p2,c2,e,h1,h2,e2⟩:=h
 subst e2
 exact ⟨p1,c1,p2,c2,e,own_BF h1 (fun g hg=>hS g (by simp [hg])),own_BF h2 (fun g hg=>hS g (by simp [hg]))⟩
theorem RecO.range {B:Nat} {w:World} {v:Value} {r:RecD} {bl:List Nat} (h:RecO B w v r bl):∀ g,g∈bl→B≤g∧g<w.heap.size:=by
 obtain ⟨p1,c1,p2,c2,p3,c3,e,h1,h2,h3,e2⟩:=h
 subst e2
 intro g hg
 simp only [List.mem_append] at hg
 rcases hg with (hg | hg) | hg
 ·exact own_ob h1 g hg
 ·exact own_ob h2 g hg
 exact own_ob h3 g hg
theorem RootO.range {B:Nat} {w:World} {v:Value} {r:RootD} {bl:List Nat} (h:RootO B w v r bl):∀ g,g∈bl→B≤g∧g<w.heap.size:=by
 obtain ⟨p1,c1,p2,c2,e,h1,h2,e2⟩:=h
 subst e2
 intro g hg
 simp only [List.mem_append] at hg
 rcases hg with hg | hg
 ·exact own_ob h1 g hg
 exact own_ob h2 g hg
theorem RecO.ext {B:Nat} {w w':World} {v:Value} {r:RecD} {bl S S':List Nat} (h:RecO B w v r bl) (hb:Ext S w S' w') (hS:∀ g,g∈bl→g ∉ S):RecO B w' v r bl:=by
 obtain ⟨p1,c1,p2,c2,p3,c3,e,h1,h2,h3,e2⟩:=h
 subst e2
 exact ⟨p1,c1,p2,c2,p3,c3,e,own_ext h1 hb (fun g hg=>hS g (by simp [ob_own hg])),own_ext h2 hb (fun g hg=>hS g (by simp [ob_own hg])),own_ext h3 hb (fun g hg=>hS g (by simp [ob_own hg])),rfl⟩
theorem RootO.ext {B:Nat} {w w':World} {v:Value} {r:RootD} {bl S S':List Nat} (h:RootO B w v r bl) (hb:Ext S w S' w') (hS:∀ g,g∈bl→g ∉ S):RootO B w' v r bl:=by
 obtain ⟨p1,c1,p2,c2,e,h1,h2,e2⟩:=h
 subst e2
 exact ⟨p1,c1,p2,c2,e,own_ext h1 hb (fun g hg=>hS g (by simp [ob_own hg])),own_ext h2 hb (fun g hg=>hS g (by simp [ob_own hg])),rfl⟩
theorem RecO.mono {B B':Nat} {w:World} {v:Value} {r:RecD} {bl:List Nat} (h:RecO B w v r bl) (hB:B'≤B):RecO B' w v r bl:=by
 obtain ⟨p1,c1,p2,c2,p3,c3,e,h1,h2,h3,e2⟩:=h
 exact ⟨p1,c1,p2,c2,p3,c3,e,own_mono h1 hB,own_mono h2 hB,own_mono h3 hB,e2⟩
theorem RootO.mono {B B':Nat} {w:World} {v:Value} {r:RootD} {bl:List Nat} (h:RootO B w v r bl) (hB:B'≤B):RootO B' w v r bl:=by
 obtain ⟨p1,c1,p2,c2,e,h1,h2,e2⟩:=h
 exact ⟨p1,c1,p2,c2,e,own_mono h1 hB,own_mono h2 hB,e2⟩
end Go.Proofs.YtnopjabcdloepaaGreatDoor.Rc

namespace Go.Proofs.YtnopjabcdloepaaGreatDoor.Rc
open Go.RowKit
def numsL (xs:List Int) (k:Nat):List Int:=((xs.take k).map numL).flatten
def shT (r h q:Int) (n:Nat):Bool:=decide (1≤r)&&(decide (r≤7)&&(decide (0≤h)&&(decide (h<4)&&(decide (1≤q)&&(decide (q≤1073741824)&&decide (n=64))))))
end Go.Proofs.YtnopjabcdloepaaGreatDoor.Rc

namespace Go.Proofs.YtnopjabcdloepaaGreatDoor.Rc
open Go.RowKit
theorem PostO.from {xs:List Int} {w W w':World} {e:Ending} (h:PostO xs W e w') (hb:Below w.heap.size w W):PostO xs w e w':=by
 obtain ⟨v,n,e1,h1,h2⟩:=h
 exact ⟨v,n,e1,own_mono h1 hb.size,hb.trans (h2.mono hb.size)⟩
def rtxL (r h q:Int) (sum:List Int):List Int:=[[2],numsL [r,h,q] 3,sum].flatten
def rootTL (r h q:Int) (sum:List Int):List Int:=if shT r h q sum.length then rtxL r h q sum else []
end Go.Proofs.YtnopjabcdloepaaGreatDoor.Rc

namespace Go.Proofs.YtnopjabcdloepaaGreatDoor.Rc
open Go.RowKit
theorem eqnilD_none (n c:Nat) (w:World):(binOp .eql 43 (.slice none n c) (.slice none 0 0)).run Tryz.prog w=.ok (.bool true) w:=by kernel_rfl
theorem eqnilD_some (ad:Addr) (n c:Nat) (w:World):(binOp .eql 43 (.slice (some ad) n c) (.slice none 0 0)).run Tryz.prog w=.ok (.bool false) w:=by kernel_rfl
theorem eqnilB_none (n c:Nat) (w:World):(binOp .eql 22 (.slice none n c) (.slice none 0 0)).run Tryz.prog w=.ok (.bool true) w:=by kernel_rfl
theorem eqnilB_some (ad:Addr) (n c:Nat) (w:World):(binOp .eql 22 (.slice (some ad) n c) (.slice none 0 0)).run Tryz.prog w=.ok (.bool false) w:=by kernel_rfl
def PostCl (n:Nat) (ds:List Int) (w:World) (e:Ending) (w':World):Prop:=∃ p c,e=.returned (.slice p n c)∧w'.ownsRow w.heap.size 175 2 (.slice p n c) n (dotL ds)∧Below w.heap.size w w'
def PostClB (xs:List Int) (w:World) (e:Ending) (w':World):Prop:=∃ p c,e=.returned (.slice p xs.length c)∧w'.ownsRow w.heap.size 5 1 (.slice p xs.length c) xs.length (bL xs)∧Below w.heap.size w w'
theorem own_sl {w:World} {B:Nat} {e:TypeId} {size:Nat} {v:Value} {n:Nat} {xs:List Value} (h:w.ownsRow B e size v n xs):∃ p c,v=.slice p n c:=by
 rcases h.2 with ⟨rfl,rfl⟩ | ⟨g,cap,cur,rfl,_⟩
 ·exact ⟨_,_,rfl⟩
 exact ⟨_,_,rfl⟩
set_option maxRecDepth 20000 in
set_option maxHeartbeats 2000000 in
theorem cloneD_c (p:Option Addr) (n c:Nat) (ds:List Int) (hn:n≤1000000) (w:World) (hD:DotsL w p n ds) :
  Calls Tryz.prog 156 #[.slice p n c] w (PostCl n ds w):=by
 cases p with
 | none =>
  have h0:n=0:=by
   rcases Nat.eq_zero_or_pos n with h | h
   ·exact h
   obtain ⟨_,_,e,_⟩:=hD.2 (by omega)
   cases e
  have hl:=hD.1
  subst h0
  have hP:PostCl 0 ds w (.returned (.slice none 0 0)) w:=⟨_,_,rfl,⟨by rw [dotL_len];omega,.inl ⟨rfl,rfl⟩⟩,Below.refl _ _⟩
  replace hP:=Lib.hid hP
  clear hl hD
  have he:=eqnilD_none 0 c
  go_enter Tryz.func156,Tryz.ntmps156
  go_wp2
  go_returns
  exact hP.out
 | some ad =>
  have hD2:=hD.below (w':=w.alloc (.cells #[] 175)) ((Below.refl _ _).alloc (Nat.le_refl _) _)
  have ho:(w.alloc (.cells #[] 175)).ownsRow w.heap.size 175 2 (.slice (some ⟨w.heap.size,0,none⟩) 0 0) 0 (dotL []):=⟨rfl,.inr ⟨w.heap.size,0,#[],rfl,Nat.le_refl _,heap_alloc_new w _,Nat.le_refl _,Nat.zero_le _,rfl,rfl⟩⟩
  replace hD2:=Lib.hid hD2
  replace ho:=Lib.hid ho
  clear hD
  have he:=eqnilD_some ad n c
  go_enter Tryz.func156,Tryz.ntmps156
  go_wp2_with (at_builtin;refine wpList_appD2 rfl rfl rfl ho.out rfl hD2.out (by omega) (by simp) ?_;intro v' w4 ho4 hg4 _;rw [Nat.zero_add,List.nil_append] at ho4;obtain ⟨p4,c4,rfl⟩:=own_sl ho4;have hP:=Lib.hid (show PostCl n ds w (.returned (.slice p4 n c4)) w4 from ⟨p4,c4,rfl,ho4,((Below.refl w.heap.size w).alloc (Nat.le_refl _) _).grown hg4 (by simp) (fun k hk=>by have h9:w.heap.size=k:=Option.some.inj hk;omega)⟩);clear ho4 hg4)
  go_returns
  exact hP.out
set_option maxRecDepth 20000 in
set_option maxHeartbeats 2000000 in
theorem cloneB_c (p:Option Addr) (n c:Nat) (xs:List Int) (hl:n=xs.length) (hn:n≤1000000) (w:World) (hX:BytesL w p xs) :
  Calls Tryz.prog 126 #[.slice p n c] w (PostClB xs w):=by
 cases p with
 | none =>
  have h0:xs=[]:=by
   rcases Nat.eq_zero_or_pos xs.length with h | h
   ·exact List.eq_nil_of_length_eq_zero h
   obtain ⟨_,_,e,_⟩:=hX h
   cases e
  subst h0
  subst hl
  have hP:PostClB [] w (.returned (.slice none 0 0)) w:=⟨_,_,rfl,⟨rfl,.inl ⟨rfl,rfl⟩⟩,Below.refl _ _⟩
  replace hP:=Lib.hid hP
  clear hX hn
  have he:=eqnilB_none 0 c
  go_enter Tryz.func126,Tryz.ntmps126
  go_wp2
  go_returns
  exact hP.out
 | some ad =>
  have hX2:=hX.below (w':=w.alloc (.cells #[] 5)) ((Below.refl _ _).alloc (Nat.le_refl _) _)
  have ho:(w.alloc (.cells #[] 5)).ownsRow w.heap.size 5 1 (.slice (some ⟨w.heap.size,0,none⟩) 0 0) 0 (bL []):=⟨rfl,.inr ⟨w.heap.size,0,#[],rfl,Nat.le_refl _,heap_alloc_new w _,Nat.le_refl _,Nat.zero_le _,rfl,rfl⟩⟩
  replace hX2:=Lib.hid hX2
  replace ho:=Lib.hid ho
  replace hl:=Lib.hid hl
  clear hX
  have he:=eqnilB_some ad n c
  go_enter Tryz.func126,Tryz.ntmps126
  go_wp2_with (at_builtin;refine wpList_appB rfl rfl rfl ho.out rfl hl.out hX2.out (by omega) (by simp) ?_;intro v' w4 ho4 hg4 _;rw [Nat.zero_add,List.nil_append,hl.out] at ho4;obtain ⟨p4,c4,rfl⟩:=own_sl ho4;have hP:=Lib.hid (show PostClB xs w (.returned (.slice p4 xs.length c4)) w4 from ⟨p4,c4,rfl,ho4,((Below.refl w.heap.size w).alloc (Nat.le_refl _) _).grown hg4 (by simp) (fun k hk=>by have h9:w.heap.size=k:=Option.some.inj hk;omega)⟩);clear ho4 hg4)
  go_returns
  exact hP.out
end Go.Proofs.YtnopjabcdloepaaGreatDoor.Rc

namespace Go.Proofs.YtnopjabcdloepaaGreatDoor.Rc
open Go.RowKit
def obk : Value → Option Nat
  | .pointer (some a) => some a.block
  | .slice (some a) _ _ => some a.block
  | _ => none
section
variable {P : Program} {ops : Array Oper} {md : Region.Mode}
def Step5 (P : Program) (l : List Oper) (F : (Nat → Value) → Array Value) (D : List Deferred) (w0 : World) (R : World → World → Prop) (Ψ : Nat → Value → World → Prop) (isA : Nat → Bool) (i : Nat) (o : Oper) : Prop :=
  ∀ (f : Nat → Value) (w : World), R w0 w → Deps l Ψ f w o.after.toList → ∀ Q : Exit → Act → World → Prop,
    (∀ v w', Ψ i v w' → R w w' → (isA i = true → ∀ g, obk v = some g → w.heap.size ≤ g) → Q .normal ((Act.mk (F f) D).put o.dst v) w') → wpList P l.toArray Q [o] ⟨F f, D⟩ w
def Steps5 (P : Program) (l : List Oper) (F : (Nat → Value) → Array Value) (D : List Deferred) (w0 : World) (R : World → World → Prop) (Ψ : Nat → Value → World → Prop) (isA : Nat → Bool) : Nat → List Oper → Prop
  | _, [] => True
  | i, o :: r => (Step5 P l F D w0 R Ψ isA i o) ∧ Steps5 P l F D w0 R Ψ isA (i + 1) r
theorem steps5_cons {P : Program} {l : List Oper} {F : (Nat → Value) → Array Value} {D : List Deferred} {w0 : World} {R : World → World → Prop} {Ψ : Nat → Value → World → Prop} {isA : Nat → Bool} {i : Nat} {o : Oper} {r : List Oper}
    (h : Step5 P l F D w0 R Ψ isA i o) (h2 : Steps5 P l F D w0 R Ψ isA (i + 1) r) : Steps5 P l F D w0 R Ψ isA i (o :: r) := ⟨h, h2⟩
theorem steps5_at {l : List Oper} {F : (Nat → Value) → Array Value} {D : List Deferred} {w0 : World} {R : World → World → Prop} {Ψ : Nat → Value → World → Prop} {isA : Nat → Bool} : ∀ (r : List Oper) (k j : Nat) (o : Oper),
    Steps5 P l F D w0 R Ψ isA k r → r[j]? = some o → Step5 P l F D w0 R Ψ isA (k + j) o
  | [], _, _, _, _, h => by simp at h
  | x :: r, k, 0, o, hs, h => by
    simp at h
    subst h
    exact hs.1
  | x :: r, k, j + 1, o, hs, h => by
    have := steps5_at r (k + 1) j o hs.2 (by simpa using h)
    rw [show k + (j + 1) = k + 1 + j by omega]
    exact this
theorem wp_region_grow5 {id : Nat} {Q : Exit → Act → World → Prop} {w : World} {l : List Oper} (n : Nat) (ds : Nat → Bool) (base : List Value) (D : List Deferred) (R : World → World → Prop) (hdrew : R w w.drew) (htrans : ∀ {a b c}, R a b → R b c → R a c) (Ψ : Nat → Value → World → Prop) (isA : Nat → Bool) (F : (Nat → Value) → Array Value) (hF : ∀ f, fill2 ds base f = F f)
    (hm : P.follows .mixedOrders = true) (hB : tail2B .any l.toArray n = true) (hdag : dagB .any l.toArray n = true) (hdst : dst2B l n ds = true) (hap : apartB l n = true)
    (stab : ∀ j v w w', Ψ j v w → R w w' → Ψ j v w')
    (old : ∀ j v w, isA j = true → Ψ j v w → ∀ g, obk v = some g → g < w.heap.size)
    (steps : Steps5 P l F D w R Ψ isA 0 (l.take n))
    (done : ∀ f w', R w w' → (∀ j o d, j < n → l[j]? = some o → o.dst = some d → Ψ j (f d) w') →
      (∀ i j oi oj di dj, i < n → j < n → i ≠ j → l[i]? = some oi → l[j]? = some oj → oi.dst = some di → oj.dst = some dj → isA i = true → isA j = true → ∀ g, obk (f di) = some g → obk (f dj) ≠ some g) → wpList P l.toArray Q (l.drop n) ⟨F f, D⟩ w') :
    (Code.region id l.toArray true).wp P Q ⟨base.toArray, D⟩ w := by
  refine wp_region_any hm ?_
  have hn : n ≤ l.toArray.size := by
    simp only [tail2B, Bool.and_eq_true, decide_eq_true_eq] at hB
    exact hB.1.1
  have hnl : n ≤ l.length := by simpa using hn
  have hds : ∀ j o, j < n → l[j]? = some o → ∃ d, o.dst = some d ∧ ds d = true := by
    intro j o hj ho
    have h1 := List.all_eq_true.1 hdst o (List.mem_iff_getElem?.2 ⟨j, by rw [List.getElem?_take_of_lt hj]; exact ho⟩)
    cases hd : o.dst with
    | none => rw [hd] at h1; cases h1
    | some d =>
      rw [hd] at h1
      exact ⟨d, rfl, h1⟩
  have hne : ∀ i j oi oj d, i < n → j < n → i ≠ j → l[i]? = some oi → l[j]? = some oj → oi.dst = some d → oj.dst ≠ some d := by
    intro i j oi oj d hi' hj hij hoi hoj hd hd'
    have h1 := List.all_eq_true.1 (List.all_eq_true.1 hap i (List.mem_range.2 hi')) j (List.mem_range.2 hj)
    simp only [Bool.or_eq_true, decide_eq_true_eq, hoi, hoj, Option.bind_some, hd, hd'] at h1
    rcases h1 with h1 | h1
    · exact hij h1
    exact h1 rfl
  let J : Array Bool → Act → World → Prop := fun listed a w' => ∃ f, a = ⟨F f, D⟩ ∧ R w w' ∧ (∀ j o d, j < n → l[j]? = some o → o.dst = some d → listed.getD j false = true → Ψ j (f d) w') ∧
      (∀ i j oi oj di dj, i < n → j < n → i ≠ j → l[i]? = some oi → l[j]? = some oj → oi.dst = some di → oj.dst = some dj → isA i = true → isA j = true → listed.getD i false = true → listed.getD j false = true → ∀ g, obk (f di) = some g → obk (f dj) ≠ some g)
  have key := wpAny_inv2 (P := P) (md := .any) (Q := Q) hB J (fun i hin listed a w1 inv hi' hJ => by
      obtain ⟨f, rfl, hb, hΨ, hN⟩ := hJ
      obtain ⟨_, o, ho, hall⟩ := mem_ready.1 hi'
      have ho' : l[i]? = some o := by simpa using ho
      obtain ⟨d, hd, hds'⟩ := hds i o hin ho'
      have hst := steps5_at (l.take n) 0 i o steps (by rw [List.getElem?_take_of_lt hin]; exact ho')
      rw [Nat.zero_add] at hst
      have h1 := hst f w1 hb (deps_of _ fun e he hbd oe de hoe hde => by
          have hlt := dagB_spec hdag i hin o ho e (by simpa using he) hbd
          exact hΨ e.on oe de (by omega) hoe hde (hall e (by simpa using he) hbd))
        (fun x a' w' => match x with | .normal => J (listed.setIfInBounds i true) a' w' | y => Q y a' w')
        (fun v w' hv hw' hnew => by
          refine ⟨upd f d v, ?_, htrans hb hw', fun j oj dj hj hoj hdj hl => ?_, ?_⟩
          · simp only [Act.put, hd]
            rw [← hF, ← hF, fill2_set v hds']
          · by_cases e : i = j
            · subst e
              have : oj = o := Option.some.inj (hoj.symm.trans ho')
              subst this
              have : dj = d := Option.some.inj (hdj.symm.trans hd)
              subst this
              simpa [upd] using hv
            have hdne : dj ≠ d := fun h => hne i j o oj d hin hj e ho' hoj hd (by rw [hdj, h])
            have : upd f d v dj = f dj := by simp [upd, hdne]
            rw [this]
            rw [getD_set_ne false e] at hl
            exact stab j _ _ _ (hΨ j oj dj hj hoj hdj hl) hw'
          intro i1 j1 oi oj di dj hi1 hj1 hij hoi hoj hdi hdj hai haj hli hlj
          have other : ∀ (k : Nat) (ok : Oper) (dk : Nat), k < n → l[k]? = some ok → ok.dst = some dk → k ≠ i → isA k = true → (listed.setIfInBounds i true).getD k false = true → isA i = true → ∀ g, obk (upd f d v d) = some g → obk (upd f d v dk) ≠ some g := by
            intro k ok dk hk hok hdk hki hak hlk hai'
            have hdne : dk ≠ d := fun h => hne i k o ok d hin hk (Ne.symm hki) ho' hok hd (by rw [hdk, h])
            have e1 : upd f d v d = v := by simp [upd]
            have e2 : upd f d v dk = f dk := by simp [upd, hdne]
            rw [e1, e2]
            rw [getD_set_ne false (Ne.symm hki)] at hlk
            intro g hg hv
            have hge := hnew hai' g hg
            have := old k (f dk) w1 hak (hΨ k ok dk hk hok hdk hlk) g hv
            omega
          by_cases e : i1 = i
          · subst e
            have : oi = o := Option.some.inj (hoi.symm.trans ho')
            subst this
            have : di = d := Option.some.inj (hdi.symm.trans hd)
            subst this
            exact other j1 oj dj hj1 hoj hdj (Ne.symm hij) haj hlj hai
          by_cases e2 : j1 = i
          · subst e2
            have : oj = o := Option.some.inj (hoj.symm.trans ho')
            subst this
            have : dj = d := Option.some.inj (hdj.symm.trans hd)
            subst this
            exact fun g h1 h2 => other i1 oi di hi1 hoi hdi e hai hli haj g h2 h1
          have h1 : di ≠ d := fun h => hne i i1 o oi d hin hi1 (Ne.symm e) ho' hoi hd (by rw [hdi, h])
          have h2 : dj ≠ d := fun h => hne i j1 o oj d hin hj1 (Ne.symm e2) ho' hoj hd (by rw [hdj, h])
          have e3 : upd f d v di = f di := by simp [upd, h1]
          have e4 : upd f d v dj = f dj := by simp [upd, h2]
          rw [e3, e4]
          rw [getD_set_ne false (Ne.symm e)] at hli
          rw [getD_set_ne false (Ne.symm e2)] at hlj
          exact hN i1 j1 oi oj di dj hi1 hj1 hij hoi hoj hdi hdj hai haj hli hlj)
      unfold wpOp
      simp only [ho]
      unfold wpList at h1
      split
      · rename_i hw
        rw [if_pos hw] at h1
        rcases h1 with h1 | ⟨h1, h2⟩
        · exact .inl (Oper.wp_to (fun a w h => h) (fun c a w h => h) (fun h => h) h1)
        exact .inr ⟨h1, h2⟩
      rename_i hw
      rw [if_neg hw] at h1
      exact h1)
    (fun i hin o ho e he hb => dagB_spec hdag i hin o ho e he hb)
    (fun a w' hJ => by
      obtain ⟨f, rfl, hb, hΨ, hN⟩ := hJ
      have hl : ∀ j, j < n → (Array.replicate n true ++ Array.replicate (l.toArray.size - n) false).getD j false = true := by
       intro j hj
       have e : (Array.replicate n true ++ Array.replicate (l.toArray.size - n) false)[j]? = some true := by
         rw [Array.getElem?_append_left (by simpa using hj)]
         simp [hj]
       simp only [Array.getD_eq_getD_getElem?, e, Option.getD_some]
      exact done f w' hb (fun j o d hj ho hd => hΨ j o d hj ho hd (hl j hj)) fun i j oi oj di dj hi hj hij hoi hoj hdi hdj hai haj => hN i j oi oj di dj hi hj hij hoi hoj hdi hdj hai haj (hl i hi) (hl j hj))
    (left n (Array.replicate l.toArray.size false)) (Array.replicate l.toArray.size false) ⟨base.toArray, D⟩ { w with drawn := w.drawn + 1 } rfl
    ⟨by simp, fun j oj _ hl => (by rw [getD_replicate_false] at hl; cases hl), fun t _ ht => getD_in (by simpa using ht) (getD_replicate_false _ _)⟩
    ⟨fun k => base.getD k undef, by
        have := fill2L_id ds (fun k => base.getD k undef) base 0 (fun j b hb => by simp [hb])
        rw [← hF]; simp only [fill2, this], hdrew, (fun j o d _ _ _ hl => by rw [getD_replicate_false] at hl; cases hl), fun i j oi oj di dj _ _ _ _ _ _ _ _ _ hl => by rw [getD_replicate_false] at hl; cases hl⟩
  refine more_fuel key ?_
  have : left n (Array.replicate l.toArray.size false) ≤ n := by
    unfold left
    exact Nat.le_trans (List.length_filter_le _ _) (by simp)
  omega
theorem below_tr {a b c : World} (h : Below a.heap.size a b) (k : Below b.heap.size b c) : Below a.heap.size a c := h.trans (k.mono h.size)
end
end Go.Proofs.YtnopjabcdloepaaGreatDoor.Rc

namespace Go.Proofs.YtnopjabcdloepaaGreatDoor.Rc
open Go.RowKit
def OwS (B:Nat) (e:TypeId) (size n:Nat) (xs:List Value):Value→World→Prop:=fun v w=>∃ p c,v=.slice p n c∧w.ownsRow B e size (.slice p n c) n xs
theorem sta_ows (B:Nat) (e:TypeId) (size n:Nat) (xs:List Value):Sta (OwS B e size n xs):=fun _ _ _ ⟨p,c,h1,h2⟩ hb=>⟨p,c,h1,below_kept h2 hb⟩
theorem own_range {w:World} {B:Nat} {e:TypeId} {size:Nat} {p:Option Addr} {m c n g:Nat} {xs:List Value} (h:w.ownsRow B e size (.slice p m c) n xs) (hg:obk (.slice p m c)=some g):B≤g∧g<w.heap.size:=by
 cases p with
 | none=>cases hg
 | some a=>exact own_ob h g (by have:a.block=g:=Option.some.inj hg;simp [ob,this])
theorem own_ge {w:World} {B:Nat} {e:TypeId} {size:Nat} {p:Option Addr} {m c n g:Nat} {xs:List Value} (h:w.ownsRow B e size (.slice p m c) n xs) (hg:obk (.slice p m c)=some g):B≤g:=(own_range h hg).1
theorem ows_obk {B:Nat} {e:TypeId} {size n:Nat} {xs:List Value} {v:Value} {w:World} {g:Nat} (h:OwS B e size n xs v w) (hg:obk v=some g):g<w.heap.size:=by
 obtain ⟨p,c,rfl,h⟩:=h
 exact (own_range h hg).2
theorem ob_ne {p q:Option Addr} {m c n d:Nat} (h:∀ g,obk (.slice p m c)=some g→obk (.slice q n d)≠some g):∀ g,g∈ob p→g ∉ ob q:=by
 intro g h1 h2
 cases p with
 | none=>simp [ob] at h1
 | some a =>
  cases q with
  | none=>simp [ob] at h2
  | some b =>
   have e1:g=a.block:=by simpa [ob] using h1
   have e2:g=b.block:=by simpa [ob] using h2
   exact h g (congrArg some e1.symm) (congrArg some e2.symm)
theorem ob_nodup (p:Option Addr):(ob p).Nodup:=by cases p <;> simp [ob]
theorem ob3_nodup {p q r:Option Addr} (h1:∀ g,g∈ob p→g ∉ ob q) (h2:∀ g,g∈ob p→g ∉ ob r) (h3:∀ g,g∈ob q→g ∉ ob r):(ob p++ob q++ob r).Nodup:=by
 rw [List.nodup_append,List.nodup_append]
 refine ⟨⟨ob_nodup p,ob_nodup q,fun a ha b hb e=>h1 a ha (e ▸ hb)⟩,ob_nodup r,fun a ha b hb e=>?_⟩
 rcases List.mem_append.1 ha with ha | ha
 ·exact h2 a ha (e ▸ hb)
 exact h3 a ha (e ▸ hb)
theorem own_grown {w w':World} {B:Nat} {e:TypeId} {size:Nat} {v:Value} {n:Nat} {xs:List Value} {row:Option Nat} (h:w.ownsRow B e size v n xs) (hg:w.grownBy w' row) (hr:∀ g,row=some g→g<B):w'.ownsRow B e size v n xs:=by
 refine ⟨h.1,h.2.imp id ?_⟩
 rintro ⟨g,cap,cur,rfl,h1,h2,h3⟩
 exact ⟨g,cap,cur,rfl,h1,(hg.block g (Array.getElem?_eq_some_iff.1 h2).1 (fun e=>by have:=hr g e.symm;omega)).trans h2,h3⟩
theorem size_setCell (w:World) (a:Addr) (u:Value):(w.setCell a u).heap.size=w.heap.size:=by simp [World.setCell]
def PostRO (r:RecD) (w:World) (e:Ending) (w':World):Prop:=∃ v bl,e=.returned v∧RecO w.heap.size w' v r bl∧bl.Nodup∧Below w.heap.size w w'
def owReL (n:Nat) (ds vs ss:List Int) (p1:Option Addr) (c1:Nat) (p2:Option Addr) (c2:Nat) (p3:Option Addr) (c3:Nat) (H B0:Nat):List (Value→World→Prop):=[
 Eq1 (.pointer (some ⟨H,3,none⟩)),
 Eq1 (.slice p1 n c1),
 OwS B0 175 2 (n) (dotL ds),
 Eq1 (.pointer (some ⟨H,5,none⟩)),
 Eq1 (.slice p2 vs.length c2),
 OwS B0 5 1 (vs.length) (bL vs),
 Eq1 (.pointer (some ⟨H,6,none⟩)),
 Eq1 (.slice p3 ss.length c3),
 OwS B0 5 1 (ss.length) (bL ss),
 Eq1 (.pointer (some ⟨H,3,none⟩))]
theorem owReS (n:Nat) (ds vs ss:List Int) (p1:Option Addr) (c1:Nat) (p2:Option Addr) (c2:Nat) (p3:Option Addr) (c3:Nat) (H B0:Nat):∀ j x' q q',(owReL n ds vs ss p1 c1 p2 c2 p3 c3 H B0).getD j (fun _ _=>True) x' q→Below q.heap.size q q'→(owReL n ds vs ss p1 c1 p2 c2 p3 c3 H B0).getD j (fun _ _=>True) x' q':=by
 refine sta_all _ ?_
 simp only [owReL,List.mem_cons,forall_eq_or_imp,List.not_mem_nil,false_implies,implies_true,and_true]
 exact ⟨sta_eq _,sta_eq _,sta_ows _ _ _ _ _,sta_eq _,sta_eq _,sta_ows _ _ _ _ _,sta_eq _,sta_eq _,sta_ows _ _ _ _ _,sta_eq _⟩
theorem owReO (n:Nat) (ds vs ss:List Int) (p1:Option Addr) (c1:Nat) (p2:Option Addr) (c2:Nat) (p3:Option Addr) (c3:Nat) (H B0:Nat):∀ j x' q,(fun j=>j==2||j==5||j==8) j=true→(owReL n ds vs ss p1 c1 p2 c2 p3 c3 H B0).getD j (fun _ _=>True) x' q→∀ g,obk x'=some g→g<q.heap.size:=by
 intro j x' q hj hv g e
 have hj':j=2∨j=5∨j=8:=by simpa [or_assoc] using hj
 rcases hj' with rfl | rfl | rfl
 ·exact ows_obk hv e
 ·exact ows_obk hv e
 exact ows_obk hv e
set_option maxRecDepth 20000 in
set_option maxHeartbeats 8000000 in
theorem ownRecord_c (r:RecD) (p1:Option Addr) (c1:Nat) (p2:Option Addr) (c2:Nat) (p3:Option Addr) (c3:Nat) (hok:r.ok) (w:World) (h1:DotsL w p1 r.n r.ds) (h2:BytesL w p2 r.vs) (h3:BytesL w p3 r.ss) :
  Calls Tryz.prog 147 #[recV r p1 c1 p2 c2 p3 c3] w (PostRO r w):=by
 obtain ⟨k,cl,sq,n,ds,gone,vs,ss⟩:=r
 obtain ⟨hn,hv,hs,-,-⟩:=hok
 dsimp only at h1 h2 h3 hn hv hs
 unfold recV
 dsimp only
 go_enter Tryz.func147,Tryz.ntmps147
 go_wp2
 refine at_world (fun W0 hW=>?_)
 have hG:Blk W0 w.heap.size 45 #[.string k,.int .i64 cl,.int .i64 sq,.slice p1 n c1,.bool gone,.slice p2 vs.length c2,.slice p3 ss.length c3]:=by rw [hW];exact (Blk.new _ _ _).alloc _
 have hR:Blk W0 (w.heap.size+1) 45 #[.string ⟨#[]⟩,.int .i64 0,.int .i64 0,.slice none 0 0,.bool false,.slice none 0 0,.slice none 0 0]:=by rw [hW];exact blk_at (by simp) (Blk.new _ _ _)
 have hbw:Below w.heap.size w W0:=by rw [hW];go_grown
 have hws:w.heap.size+2=W0.heap.size:=by rw [hW];simp
 clear hW
 have hc1:=fun w1 (hb:Below W0.heap.size W0 w1)=>cloneD_c p1 n c1 ds (by omega) w1 ((h1.below hbw).below hb)
 have hc2:=fun w1 (hb:Below W0.heap.size W0 w1)=>cloneB_c p2 vs.length c2 vs rfl (by omega) w1 ((h2.below hbw).below hb)
 have hc3:=fun w1 (hb:Below W0.heap.size W0 w1)=>cloneB_c p3 ss.length c3 ss rfl (by omega) w1 ((h3.below hbw).below hb)
 replace hc1:=Lib.hid hc1
 replace hc2:=Lib.hid hc2
 replace hc3:=Lib.hid hc3
 clear h1 h2 h3 hn hv hs
 refine wp_region_grow5 10 (fun k=>(Nat.ble 3 k&&Nat.ble k 12)) _ [] (fun a b=>Below a.heap.size a b) (Below.refl _ _).drew below_tr (fun j x' q=>(owReL n ds vs ss p1 c1 p2 c2 p3 c3 w.heap.size W0.heap.size).getD j (fun _ _=>True) x' q) (fun j=>j==2||j==5||j==8) (fun f=>#[.agg #[.string k,.int .i64 cl,.int .i64 sq,.slice p1 n c1,.bool gone,.slice p2 vs.length c2,.slice p3 ss.length c3],.pointer (some ⟨w.heap.size,0,none⟩),.pointer (some ⟨(w.heap.size+1),0,none⟩),f 3,f 4,f 5,f 6,f 7,f 8,f 9,f 10,f 11,f 12,undef,undef,undef]) (fun f=>rfl) (by kernel_rfl) (by kernel_rfl) (by kernel_rfl) (by kernel_rfl) (by kernel_rfl) (owReS _ _ _ _ _ _ _ _ _ _ _ _) (owReO _ _ _ _ _ _ _ _ _ _ _ _) ?_ ?_
 ·refine steps5_cons ?_ ?_
  ·intro f w1 hb hd Q hK
   clear hd
   have hK:=Lib.hid hK
   go_wp2
   exact hK.out _ _ rfl (.refl _ _) nof
  refine steps5_cons ?_ ?_
  ·intro f w1 hb hd Q hK
   have e3:f 3=.pointer (some ⟨w.heap.size,3,none⟩):=hd.1 rfl
   clear hd
   simp only [e3] at hK
   have hK:=Lib.hid hK
   have c0:=(hG.below hb).cell 3
   simp only [List.getElem?_toArray,List.getElem?_cons_zero,List.getElem?_cons_succ] at c0
   go_wp2
   exact hK.out _ _ rfl (.refl _ _) nof
  refine steps5_cons ?_ ?_
  ·intro f w1 hb hd Q hK
   have e4:f 4=.slice p1 n c1:=hd.1 rfl
   clear hd
   simp only [e4] at hK
   have hK:=Lib.hid hK
   go_wp2_with fail
   refine (hc1.out _ hb).mono ?_
   rintro e w2 ⟨p,c,rfl,ho,hb2⟩
   replace ho:=Lib.hid ho
   go_wp2
   exact hK.out _ _ ⟨_,_,rfl,own_mono ho.out hb.size⟩ hb2 (fun _ g e=>own_ge ho.out e)
  refine steps5_cons ?_ ?_
  ·intro f w1 hb hd Q hK
   clear hd
   have hK:=Lib.hid hK
   go_wp2
   exact hK.out _ _ rfl (.refl _ _) nof
  refine steps5_cons ?_ ?_
  ·intro f w1 hb hd Q hK
   have e6:f 6=.pointer (some ⟨w.heap.size,5,none⟩):=hd.1 rfl
   clear hd
   simp only [e6] at hK
   have hK:=Lib.hid hK
   have c0:=(hG.below hb).cell 5
   simp only [List.getElem?_toArray,List.getElem?_cons_zero,List.getElem?_cons_succ] at c0
   go_wp2
   exact hK.out _ _ rfl (.refl _ _) nof
  refine steps5_cons ?_ ?_
  ·intro f w1 hb hd Q hK
   have e7:f 7=.slice p2 vs.length c2:=hd.1 rfl
   clear hd
   simp only [e7] at hK
   have hK:=Lib.hid hK
   go_wp2_with fail
   refine (hc2.out _ hb).mono ?_
   rintro e w2 ⟨p,c,rfl,ho,hb2⟩
   replace ho:=Lib.hid ho
   go_wp2
   exact hK.out _ _ ⟨_,_,rfl,own_mono ho.out hb.size⟩ hb2 (fun _ g e=>own_ge ho.out e)
  refine steps5_cons ?_ ?_
  ·intro f w1 hb hd Q hK
   clear hd
   have hK:=Lib.hid hK
   go_wp2
   exact hK.out _ _ rfl (.refl _ _) nof
  refine steps5_cons ?_ ?_
  ·intro f w1 hb hd Q hK
   have e9:f 9=.pointer (some ⟨w.heap.size,6,none⟩):=hd.1 rfl
   clear hd
   simp only [e9] at hK
   have hK:=Lib.hid hK
   have c0:=(hG.below hb).cell 6
   simp only [List.getElem?_toArray,List.getElem?_cons_zero,List.getElem?_cons_succ] at c0
   go_wp2
   exact hK.out _ _ rfl (.refl _ _) nof
  refine steps5_cons ?_ ?_
  ·intro f w1 hb hd Q hK
   have e10:f 10=.slice p3 ss.length c3:=hd.1 rfl
   clear hd
   simp only [e10] at hK
   have hK:=Lib.hid hK
   go_wp2_with fail
   refine (hc3.out _ hb).mono ?_
   rintro e w2 ⟨p,c,rfl,ho,hb2⟩
   replace ho:=Lib.hid ho
   go_wp2
   exact hK.out _ _ ⟨_,_,rfl,own_mono ho.out hb.size⟩ hb2 (fun _ g e=>own_ge ho.out e)
  refine steps5_cons ?_ ?_
  ·intro f w1 hb hd Q hK
   clear hd
   have hK:=Lib.hid hK
   go_wp2
   exact hK.out _ _ rfl (.refl _ _) nof
  trivial
 intro f w1 hb hf hne
 clear hc1 hc2 hc3
 obtain ⟨q0,d0,e0,o0⟩:OwS W0.heap.size 175 2 (n) (dotL ds) (f 5) w1:=hf 2 _ _ (by decide) rfl rfl
 obtain ⟨q1,d1,e1,o1⟩:OwS W0.heap.size 5 1 (vs.length) (bL vs) (f 8) w1:=hf 5 _ _ (by decide) rfl rfl
 obtain ⟨q2,d2,e2,o2⟩:OwS W0.heap.size 5 1 (ss.length) (bL ss) (f 11) w1:=hf 8 _ _ (by decide) rfl rfl
 have n01:=hne 2 5 _ _ 5 8 (by decide) (by decide) (by decide) rfl rfl rfl rfl rfl rfl
 rw [e0,e1] at n01
 replace n01:=Lib.hid n01
 have n02:=hne 2 8 _ _ 5 11 (by decide) (by decide) (by decide) rfl rfl rfl rfl rfl rfl
 rw [e0,e2] at n02
 replace n02:=Lib.hid n02
 have n12:=hne 5 8 _ _ 8 11 (by decide) (by decide) (by decide) rfl rfl rfl rfl rfl rfl
 rw [e1,e2] at n12
 replace n12:=Lib.hid n12
 simp only [e0,e1,e2]
 have hfa:f 12=.pointer (some ⟨w.heap.size,3,none⟩):=hf 9 _ _ (by decide) rfl rfl
 simp only [hfa]
 clear hf hne
 replace hG:=hG.below hb
 replace hR:=hR.below hb
 have hb0:=hbw.trans (hb.mono hbw.size)
 have hne1:(some (w.heap.size+1):Option Nat)≠some w.heap.size:=fun h=>by injection h;omega
 have s0:=grown_setCells w.heap.size [.slice q0 n d0] 3 w1
 have s1:=grown_setCells w.heap.size [.slice q1 vs.length d1] 5 (w1.setCells w.heap.size 3 [.slice q0 n d0])
 have s2:=grown_setCells w.heap.size [.slice q2 ss.length d2] 6 ((w1.setCells w.heap.size 3 [.slice q0 n d0]).setCells w.heap.size 5 [.slice q1 vs.length d1])
 have hR3:=(((hR.grown s0 hne1).grown s1 hne1).grown s2 hne1)
 replace o0:=own_grown (own_grown (own_grown (o0) s0 (fun g h=>by injection h;omega)) s1 (fun g h=>by injection h;omega)) s2 (fun g h=>by injection h;omega)
 replace o0:=Lib.hid o0
 replace o1:=own_grown (own_grown (own_grown (o1) s0 (fun g h=>by injection h;omega)) s1 (fun g h=>by injection h;omega)) s2 (fun g h=>by injection h;omega)
 replace o1:=Lib.hid o1
 replace o2:=own_grown (own_grown (own_grown (o2) s0 (fun g h=>by injection h;omega)) s1 (fun g h=>by injection h;omega)) s2 (fun g h=>by injection h;omega)
 replace o2:=Lib.hid o2
 replace hb0:=(((hb0.grown s0 (by have:=hb.size;have:=hbw.size;first | omega | (simp only [World.setCells,size_setCell];omega)) (fun g h=>by injection h;omega)).grown s1 (by have:=hb.size;have:=hbw.size;first | omega | (simp only [World.setCells,size_setCell];omega)) (fun g h=>by injection h;omega)).grown s2 (by have:=hb.size;have:=hbw.size;first | omega | (simp only [World.setCells,size_setCell];omega)) (fun g h=>by injection h;omega))
 obtain ⟨y0,y1,y2,y3,y4,y5,y6⟩:=blk7 hG
 have fA:=fun j=>hG.frozen j
 clear s0 s1 s2 hR hne1
 have hws4:w.heap.size+2≤((((w1.setCells w.heap.size 3 [.slice q0 n d0]).setCells w.heap.size 5 [.slice q1 vs.length d1]).setCells w.heap.size 6 [.slice q2 ss.length d2])).heap.size:=by have:=hb.size;simp only [World.setCells,size_setCell];omega
 replace hb0:=Lib.hid hb0
 replace hws4:=Lib.hid hws4
 go_wp2_with (refine stRec rfl rfl rfl rfl hR3 rfl (by kernel_rfl) ?_;intro w4 hR4 hg4 hs4;replace hg4:=Lib.hid hg4;clear y0 y1 y2 y3 y4 y5 y6 fA)
 have hb4:=hb0.out.grown hg4.out (Nat.le_trans (by omega) hws4.out) (fun k h=>by injection h with h;omega)
 replace o0:=Lib.hid (own_grown o0.out hg4.out (fun g h=>by injection h;omega))
 replace o1:=Lib.hid (own_grown o1.out hg4.out (fun g h=>by injection h;omega))
 replace o2:=Lib.hid (own_grown o2.out hg4.out (fun g h=>by injection h;omega))
 exact retRec rfl rfl hR4 rfl ⟨_,ob q0++ob q1++ob q2,rfl,⟨q0,d0,q1,d1,q2,d2,rfl,own_mono o0.out (by omega),own_mono o1.out (by omega),own_mono o2.out (by omega),rfl⟩,ob3_nodup (ob_ne n01.out) (ob_ne n02.out) (ob_ne n12.out),hb4⟩
end Go.Proofs.YtnopjabcdloepaaGreatDoor.Rc
