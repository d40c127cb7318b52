import Derived.Test.YtnopjabcdloepaaGreatDoorKe
import Derived.Test.YtnopjabcdloepaaGreatDoorKg
import Derived.Laws.OwnMore
namespace Go.Proofs.YtnopjabcdloepaaGreatDoor.Rc
open Go.RowKit
theorem neqptr (ad:Addr) (w:World):(binOp .neq 87 (.pointer (some ad)) (.pointer none)).run Tryz.prog w=.ok (.bool true) w:=by kernel_rfl
set_option maxHeartbeats 2000000 in
theorem gknown_c (gb:Nat) (l1:Value) (m1:Nat) (l2:Value) (m2:Nat) (w:World) (hG:Blk w gb 191 (ghC l1 m1 l2 m2)) :
  Calls Tryz.prog 150 #[.pointer (some ⟨gb,0,none⟩)] w fun e w'=>e=.returned (.bool true)∧Below w.heap.size w w':=by
 have hk:=Lib.hid (knownRec_c gb l1 m1 l2 m2 w hG)
 have hnp:=neqptr
 clear hG
 go_enter Tryz.func150,Tryz.ntmps150
 go_wp2_with fail
 refine hk.out.mono ?_
 rintro e w1 ⟨rfl,hb⟩
 go_wp2
 go_returns
 exact ⟨rfl,hb⟩
theorem GS.known {B gb:Nat} {w:World} {S:List Nat} {L:List RecD} {M:List RootD} (h:GS B w S gb L M):Calls Tryz.prog 150 #[.pointer (some ⟨gb,0,none⟩)] w fun e w'=>e=.returned (.bool true)∧Below w.heap.size w w':=by
 obtain ⟨l1,m1,l2,m2,g1,_⟩:=h
 exact gknown_c gb l1 m1 l2 m2 w g1
theorem hasRec_c (B gb:Nat) (S:List Nat) (L:List RecD) (M:List RootD) (r:RecD) (v:Value) (hok:r.ok) (w:World) (hGS:GS B w S gb L M) (hv:RecF [] w v r) :
  Calls Tryz.prog 168 #[.pointer (some ⟨gb,0,none⟩),v] w fun e w'=>e=.returned (.bool (hasT recT L (recT r)))∧Below w.heap.size w w':=by
 obtain ⟨l1,m1,l2,m2,g1,-,-,-,g5,g6⟩:=hGS
 obtain ⟨vs,bls,D,-,-,-,-,a5,-,a7,-⟩:=g5
 obtain ⟨p1,c1,p2,c2,p3,c3,rfl,h1,h2,h3⟩:=hv
 have:=hasRec_d gb l1 m1 l2 m2 r p1 c1 p2 c2 p3 c3 hok w g1 h1.d h2.b _ D a5
 rw [a7 _ (br_rec hok)] at this
 exact this
def gyRecL (r:RecD) (p1:Option Addr) (c1:Nat) (p2:Option Addr) (c2:Nat) (p3:Option Addr) (c3:Nat) (gb:Nat) (HH:Bool):List (Value→World→Prop):=[
 Eq1 (.pointer (some ⟨gb,0,none⟩)),
 Eq1 (.bool true),
 Eq1 (.bool true),
 Eq1 (.pointer (some ⟨gb,0,none⟩)),
 Eq1 (.pointer (some ⟨gb,0,none⟩)),
 Eq1 (.pointer (some ⟨gb,0,none⟩)),
 Eq1 (.pointer (some ⟨gb,0,none⟩)),
 Eq1 (.agg #[.string r.k,.int .i64 r.cl,.int .i64 r.sq,.slice p1 r.n c1,.bool r.gone,.slice p2 r.vs.length c2,.slice p3 r.ss.length c3]),
 Eq1 (.bool HH),
 Eq1 (.bool HH),
 Eq1 (.bool HH)]
theorem gyRecS (r:RecD) (p1:Option Addr) (c1:Nat) (p2:Option Addr) (c2:Nat) (p3:Option Addr) (c3:Nat) (gb:Nat) (HH:Bool):∀ j x' q q',(gyRecL r p1 c1 p2 c2 p3 c3 gb HH).getD j (fun _ _=>True) x' q→Below q.heap.size q q'→(gyRecL r p1 c1 p2 c2 p3 c3 gb HH).getD j (fun _ _=>True) x' q':=by
 refine sta_all _ ?_
 simp only [gyRecL,List.mem_cons,forall_eq_or_imp,List.not_mem_nil,false_implies,implies_true,and_true]
 exact ⟨sta_eq _,sta_eq _,sta_eq _,sta_eq _,sta_eq _,sta_eq _,sta_eq _,sta_eq _,sta_eq _,sta_eq _,sta_eq _⟩
set_option maxRecDepth 20000 in
set_option maxHeartbeats 4000000 in
theorem gHas_c (B gb:Nat) (S:List Nat) (L:List RecD) (M:List RootD) (r:RecD) (v:Value) (hok:r.ok) (w:World) (hGS:GS B w S gb L M) (hv:RecF [] w v r) :
  Calls Tryz.prog 83 #[.pointer (some ⟨gb,0,none⟩),v] w fun e w'=>e=.returned (.bool (hasT recT L (recT r)))∧Below w.heap.size w w':=by
 have hkn:=fun w1 (hb:Below w.heap.size w w1)=>(hGS.below hb).known
 have hha:=fun w1 (hb:Below w.heap.size w w1)=>hasRec_c B gb S L M r v hok w1 (hGS.below hb) (hv.ext (.below hb))
 obtain ⟨HH,hHH⟩:∃ HH,HH=hasT recT L (recT r):=⟨_,rfl⟩
 rw [← hHH] at hha ⊢
 clear hHH hGS hok
 obtain ⟨p1,c1,p2,c2,p3,c3,rfl,h1,h2,h3⟩:=hv
 clear h1 h2 h3
 unfold recV at hha ⊢
 replace hkn:=Lib.hid hkn
 replace hha:=Lib.hid hha
 go_enter Tryz.func83,Tryz.ntmps83
 go_wp2
 refine at_world (fun W1 hW=>?_)
 have hbW:Below w.heap.size w W1:=by rw [hW];go_grown
 have hX:Blk W1 w.heap.size 45 #[.string r.k,.int .i64 r.cl,.int .i64 r.sq,.slice p1 r.n c1,.bool r.gone,.slice p2 r.vs.length c2,.slice p3 r.ss.length c3]:=by rw [hW];exact Blk.new _ _ _
 clear hW
 obtain ⟨XB,hXB⟩:∃ XB,XB=w.heap.size:=⟨_,rfl⟩
 rw [← hXB] at hX ⊢
 clear hXB
 replace hkn:=Lib.hid fun w1 (hb:Below W1.heap.size W1 w1)=>hkn.out w1 (hbW.trans (hb.mono hbW.size))
 replace hha:=Lib.hid fun w1 (hb:Below W1.heap.size W1 w1)=>hha.out w1 (hbW.trans (hb.mono hbW.size))
 refine wp_region_grow5 11 (fun k=>(Nat.ble 4 k&&Nat.ble k 14)) _ [] (fun a b=>Below a.heap.size a b) (Below.refl _ _).drew below_tr (fun j x' q=>(gyRecL r p1 c1 p2 c2 p3 c3 gb HH).getD j (fun _ _=>True) x' q) (fun _=>false) (fun f=>#[.pointer (some ⟨gb,0,none⟩),_,_,.pointer (some ⟨XB,0,none⟩),f 4,f 5,f 6,f 7,f 8,f 9,f 10,f 11,f 12,f 13,f 14]) (fun f=>rfl) (by kernel_rfl) (by kernel_rfl) (by kernel_rfl) (by kernel_rfl) (by kernel_rfl) (gyRecS _ _ _ _ _ _ _ _ _) (fun _ _ _ h=>by cases h) ?_ ?_
 ·refine steps5_cons ?_ ?_
  ·intro f w1 hb hd Q hK
   clear hd
   have hK:=Lib.hid hK
   go_wp2
   exact hK.out _ _ rfl (.refl _ _) nof
  refine steps5_cons ?_ ?_
  ·intro f w1 hb hd Q hK
   have e5:f 5=.pointer (some ⟨gb,0,none⟩):=hd.1 rfl
   clear hd
   simp only [e5] at hK
   have hK:=Lib.hid hK
   go_wp2_with fail
   refine (hkn.out _ hb).mono ?_
   rintro e w2 ⟨rfl,hb2⟩
   go_wp2
   exact hK.out _ _ rfl hb2 nof
  refine steps5_cons ?_ ?_
  ·intro f w1 hb hd Q hK
   have e6:f 6=.bool true:=hd.1 rfl
   clear hd
   simp only [e6] at hK
   have hK:=Lib.hid hK
   go_wp2
   exact hK.out _ _ rfl (.refl _ _) nof
  refine steps5_cons ?_ ?_
  ·intro f w1 hb hd Q hK
   have e7:f 7=.bool true:=hd.1 rfl
   clear hd
   simp only [e7] at hK
   have hK:=Lib.hid hK
   go_wp2
   exact hK.out _ _ rfl (.refl _ _) nof
  refine steps5_cons ?_ ?_
  ·intro f w1 hb hd Q hK
   have e8:f 8=.pointer (some ⟨gb,0,none⟩):=hd.1 rfl
   have e7:f 7=.bool true:=hd.2.1 rfl
   clear hd
   simp only [e8,e7] at hK
   have hK:=Lib.hid hK
   go_wp2
   exact hK.out _ _ rfl (.refl _ _) nof
  refine steps5_cons ?_ ?_
  ·intro f w1 hb hd Q hK
   have e9:f 9=.pointer (some ⟨gb,0,none⟩):=hd.1 rfl
   have e7:f 7=.bool true:=hd.2.1 rfl
   clear hd
   simp only [e9,e7] at hK
   have hK:=Lib.hid hK
   go_wp2
   exact hK.out _ _ rfl (.refl _ _) nof
  refine steps5_cons ?_ ?_
  ·intro f w1 hb hd Q hK
   have e10:f 10=.pointer (some ⟨gb,0,none⟩):=hd.1 rfl
   have e7:f 7=.bool true:=hd.2.1 rfl
   clear hd
   simp only [e10,e7] at hK
   have hK:=Lib.hid hK
   go_wp2
   exact hK.out _ _ rfl (.refl _ _) nof
  refine steps5_cons ?_ ?_
  ·intro f w1 hb hd Q hK
   have e7:f 7=.bool true:=hd.1 rfl
   clear hd
   simp only [e7] at hK
   have hK:=Lib.hid hK
   obtain ⟨c0,c1,c2,c3,c4,c5,c6⟩:=blk7 (hX.below hb)
   go_wp2
   exact hK.out _ _ rfl (.refl _ _) nof
  refine steps5_cons ?_ ?_
  ·intro f w1 hb hd Q hK
   have e11:f 11=.pointer (some ⟨gb,0,none⟩):=hd.1 rfl
   have e12:f 12=.agg #[.string r.k,.int .i64 r.cl,.int .i64 r.sq,.slice p1 r.n c1,.bool r.gone,.slice p2 r.vs.length c2,.slice p3 r.ss.length c3]:=hd.2.1 rfl
   have e7:f 7=.bool true:=hd.2.2.1 rfl
   clear hd
   simp only [e11,e12,e7] at hK
   have hK:=Lib.hid hK
   go_wp2_with fail
   refine (hha.out _ hb).mono ?_
   rintro e w2 ⟨rfl,hb2⟩
   go_wp2
   exact hK.out _ _ rfl hb2 nof
  refine steps5_cons ?_ ?_
  ·intro f w1 hb hd Q hK
   have e7:f 7=.bool true:=hd.1 rfl
   have e13:f 13=.bool HH:=hd.2.1 rfl
   clear hd
   simp only [e7,e13] at hK
   have hK:=Lib.hid hK
   go_wp2
   exact hK.out _ _ rfl (.refl _ _) nof
  refine steps5_cons ?_ ?_
  ·intro f w1 hb hd Q hK
   have e14:f 14=.bool HH:=hd.1 rfl
   clear hd
   simp only [e14] at hK
   have hK:=Lib.hid hK
   go_wp2
   exact hK.out _ _ rfl (.refl _ _) nof
  trivial
 intro f w1 hb hf hne
 refine wpList_nil ?_
 have d4:f 4=.bool HH:=hf 10 _ _ (by decide) rfl rfl
 simp only [d4]
 clear hf hne d4
 have hb2:=hbW.trans (hb.mono hbW.size)
 go_wp2
 go_returns
 exact ⟨rfl,hb2⟩
set_option maxHeartbeats 4000000 in
theorem gWrote_c (B gb:Nat) (S:List Nat) (L:List RecD) (M:List RootD) (p:Option Addr) (n ca:Nat) (rs:List RecD) (hn:n=rs.length) (hok:∀ r,r∈rs→r.ok) (hlen:L.length+rs.length≤100000) (w:World) (hB:B≤w.heap.size) (hGS:GS B w S gb L M) (hR:RecsF S w p rs) :
  Calls Tryz.prog 70 #[.pointer (some ⟨gb,0,none⟩),.slice p n ca] w fun e w'=>e=.returned (.tuple #[])∧∃ S',GS B w' S' gb (putsT recT L rs) M∧Ext S w S' w':=by
 have hkn:=Lib.hid hGS.known
 have hpu:=Lib.hid fun w1 (hb:Below w.heap.size w w1)=>putRec_c B gb S L M p n ca rs hn hok hlen w1 (Nat.le_trans hB hb.size) (hGS.below hb) (hR.ext (fun v r h=>h.ext (.below hb)) (.below hb))
 clear hGS hR hn hok hlen
 go_enter Tryz.func70,Tryz.ntmps70
 go_wp2_with fail
 refine hkn.out.mono ?_
 rintro e w1 ⟨rfl,hb⟩
 replace hpu:=Lib.hid (hpu.out w1 hb)
 clear hkn
 go_wp2_with fail
 refine hpu.out.mono ?_
 rintro e w2 ⟨rfl,S2,h2,h3⟩
 have hfin:=Lib.hid (show ∃ S',GS B w2 S' gb (putsT recT L rs) M∧Ext S w S' w2 from ⟨S2,h2,(Ext.below hb).trans h3⟩)
 clear h2 h3 hpu
 go_wp2
 go_returns
 exact ⟨rfl,hfin.out⟩
end Go.Proofs.YtnopjabcdloepaaGreatDoor.Rc

namespace Go.Proofs.YtnopjabcdloepaaGreatDoor.Rc
open Go.RowKit
theorem book_nil {α:Type} {O:Nat→World→Value→α→List Nat→Prop} {T:α→List Int} {ok:α→Prop} {ty:TypeId} {k B:Nat} {w:World} {S:List Nat} {m:Nat} (h:w.ownsMap (H:=Unit) Tryz.prog 9 (plainElem Tryz.prog 3) m 0 (.map [])) (hS:m∈S):Book O T ok ty k B w S (.slice none 0 0) m [] :=
 ⟨[],[],.map [],⟨by simp,.inl ⟨rfl,rfl⟩⟩,⟨rfl,rfl,fun i v r bl h=>by simp at h⟩,fun g hg=>by simp at hg,fun g hg=>by simp [Value.ownBlock] at hg,h,hS,fun xs _=>rfl,fun r hr=>by cases hr⟩
theorem bkRec_size:(Tryz.prog.info? 181).map (·.size)=some 4:=by kernel_rfl
theorem bkRec_under:∃ d,Tryz.prog.underlying 181=some d∧(match d with | .struct _ | .array _ _=>true | _=>false)=true:=by
 cases h:Tryz.prog.underlying 181 with
 | none=>exact absurd (show (Tryz.prog.underlying 181).isSome=true by kernel_rfl) (by rw [h];decide)
 | some d=>exact ⟨d,rfl,by
   have:=show (match Tryz.prog.underlying 181 with | some (.struct _) | some (.array _ _)=>true | _=>false)=true by kernel_rfl
   rw [h] at this
   cases d <;> simp_all⟩
set_option maxHeartbeats 2000000 in
theorem begunRec_c (w:World):Calls Tryz.prog 146 #[.func (.func 64) #[] #[],.func (.func 147) #[] #[]] w fun e w'=>∃ m,e=.returned (.agg #[.slice none 0 0,.map (some m),.func (.func 64) #[] #[],.func (.func 147) #[] #[]])∧w.heap.size≤m∧w'.ownsMap (H:=Unit) Tryz.prog 9 (plainElem Tryz.prog 3) m 0 (.map [])∧Below w.heap.size w w':=by
 have hmm:=@run_makeMap Tryz.prog
 have hB:Blk ((w.alloc (.cells #[.slice none 0 0,.map none,.nilFunc,.nilFunc] 181)).alloc (.map #[] 0)) w.heap.size 181 #[.slice none 0 0,.map none,.nilFunc,.nilFunc]:=(Blk.new _ _ _).alloc _
 have hm:((w.alloc (.cells #[.slice none 0 0,.map none,.nilFunc,.nilFunc] 181)).alloc (.map #[] 0)).ownsMap (H:=Unit) Tryz.prog 9 (plainElem Tryz.prog 3) (w.heap.size+1) 0 (.map []):=by
  have:=World.ownsMap_made (H:=Unit) (w.alloc (.cells #[.slice none 0 0,.map none,.nilFunc,.nilFunc] 181)) Tryz.prog 9 (plainElem Tryz.prog 3)
  simpa using this
 have hb:Below w.heap.size w ((w.alloc (.cells #[.slice none 0 0,.map none,.nilFunc,.nilFunc] 181)).alloc (.map #[] 0)):=by go_grown
 replace hm:=Lib.hid hm
 replace hb:=Lib.hid hb
 go_enter Tryz.func146,Tryz.ntmps146
 go_wp2_with (refine wpList_store_blk rfl _ _ _ rfl _ _ _ _ rfl rfl hB rfl bkRec_size (by kernel_rfl) ?_;intro w2 hB2 hg2 hs2;replace hg2:=Lib.hid hg2;replace hs2:=Lib.hid hs2)
 obtain ⟨d,hd,hs⟩:=bkRec_under
 refine bodyPost_ret (results_cell_row rfl _ w2 w.heap.size 181 _ (0,0) d rfl hB2 hd (by revert hs;cases d <;> exact fun h=>h) bkRec_size) rfl ?_
 refine ⟨w.heap.size+1,rfl,by omega,hm.out.kept hg2.out (fun h=>by injection h with h;omega),hb.out.grown hg2.out hb.out.size (fun k h=>by injection h with h;omega)⟩
theorem bkRoot_size:(Tryz.prog.info? 186).map (·.size)=some 4:=by kernel_rfl
theorem bkRoot_under:∃ d,Tryz.prog.underlying 186=some d∧(match d with | .struct _ | .array _ _=>true | _=>false)=true:=by
 cases h:Tryz.prog.underlying 186 with
 | none=>exact absurd (show (Tryz.prog.underlying 186).isSome=true by kernel_rfl) (by rw [h];decide)
 | some d=>exact ⟨d,rfl,by
   have:=show (match Tryz.prog.underlying 186 with | some (.struct _) | some (.array _ _)=>true | _=>false)=true by kernel_rfl
   rw [h] at this
   cases d <;> simp_all⟩
set_option maxHeartbeats 2000000 in
theorem begunRoot_c (w:World):Calls Tryz.prog 148 #[.func (.func 26) #[] #[],.func (.func 149) #[] #[]] w fun e w'=>∃ m,e=.returned (.agg #[.slice none 0 0,.map (some m),.func (.func 26) #[] #[],.func (.func 149) #[] #[]])∧w.heap.size≤m∧w'.ownsMap (H:=Unit) Tryz.prog 9 (plainElem Tryz.prog 3) m 0 (.map [])∧Below w.heap.size w w':=by
 have hmm:=@run_makeMap Tryz.prog
 have hB:Blk ((w.alloc (.cells #[.slice none 0 0,.map none,.nilFunc,.nilFunc] 186)).alloc (.map #[] 0)) w.heap.size 186 #[.slice none 0 0,.map none,.nilFunc,.nilFunc]:=(Blk.new _ _ _).alloc _
 have hm:((w.alloc (.cells #[.slice none 0 0,.map none,.nilFunc,.nilFunc] 186)).alloc (.map #[] 0)).ownsMap (H:=Unit) Tryz.prog 9 (plainElem Tryz.prog 3) (w.heap.size+1) 0 (.map []):=by
  have:=World.ownsMap_made (H:=Unit) (w.alloc (.cells #[.slice none 0 0,.map none,.nilFunc,.nilFunc] 186)) Tryz.prog 9 (plainElem Tryz.prog 3)
  simpa using this
 have hb:Below w.heap.size w ((w.alloc (.cells #[.slice none 0 0,.map none,.nilFunc,.nilFunc] 186)).alloc (.map #[] 0)):=by go_grown
 replace hm:=Lib.hid hm
 replace hb:=Lib.hid hb
 go_enter Tryz.func148,Tryz.ntmps148
 go_wp2_with (refine wpList_store_blk rfl _ _ _ rfl _ _ _ _ rfl rfl hB rfl bkRoot_size (by kernel_rfl) ?_;intro w2 hB2 hg2 hs2;replace hg2:=Lib.hid hg2;replace hs2:=Lib.hid hs2)
 obtain ⟨d,hd,hs⟩:=bkRoot_under
 refine bodyPost_ret (results_cell_row rfl _ w2 w.heap.size 186 _ (0,0) d rfl hB2 hd (by revert hs;cases d <;> exact fun h=>h) bkRoot_size) rfl ?_
 refine ⟨w.heap.size+1,rfl,by omega,hm.out.kept hg2.out (fun h=>by injection h with h;omega),hb.out.grown hg2.out hb.out.size (fun k h=>by injection h with h;omega)⟩
set_option maxRecDepth 20000 in
set_option maxHeartbeats 2000000 in
theorem new_c (w:World):Calls Tryz.prog 69 #[] w fun e w'=>∃ gb S,e=.returned (.pointer (some ⟨gb,0,none⟩))∧GS w.heap.size w' S gb [] []∧Below w.heap.size w w':=by
 go_enter Tryz.func69,Tryz.ntmps69
 go_wp2_with fail
 refine (begunRec_c _).mono ?_
 rintro e w1 ⟨m1,rfl,h1,h2,hb⟩
 replace h1:=Lib.hid h1
 replace h2:=Lib.hid h2
 go_wp2_with fail
 refine (begunRoot_c _).mono ?_
 rintro e w2 ⟨m2,rfl,h3,h4,hb2⟩
 have hb3:=hb.trans (hb2.mono hb.size)
 have h5:=h2.out.kept (below_grown hb2) (by simp)
 have hlt1:=h5.lt
 have hlt2:=h4.lt
 have hne:m1≠m2:=by have:=h2.out.lt;omega
 replace h3:=Lib.hid h3
 replace h4:=Lib.hid h4
 replace h5:=Lib.hid h5
 replace hne:=Lib.hid hne
 clear h2
 go_wp2
 go_returns
 refine ⟨_,[w2.heap.size,m1,m2],rfl,⟨_,m1,_,m2,Blk.new _ _ _,by simp,fun g hg=>?_,hne.out,book_nil (h5.out.alloc _) (by simp),book_nil (h4.out.alloc _) (by simp)⟩,hb3.trans ((Below.refl _ _).alloc hb3.size _)⟩
 have h6:=h1.out
 have h7:=h3.out
 have h8:=hb.size
 have h9:=hb3.size
 simp only [List.mem_cons,List.not_mem_nil,or_false] at hg
 rw [World.size_alloc]
 rcases hg with rfl | rfl | rfl <;> omega
end Go.Proofs.YtnopjabcdloepaaGreatDoor.Rc

namespace Go.Proofs.YtnopjabcdloepaaGreatDoor.Rc
open Go Go.RowKit
structure GrV where
 cl:Int
 q:Option Addr
 c:Nat
 pub:List Int
 pre:ByteArray
def GsAt (w:World) (p:Option Addr) (L:List GrV):Prop:=0<L.length→∃ g o,p=some ⟨g,o,none⟩∧g<w.heap.size∧∀ (i:Nat) (x:GrV),L[i]?=some x→(w.cell? ⟨g,o+i*3,none⟩=some (.int .i64 x.cl)∧w.cell? ⟨g,o+i*3+1,none⟩=some (.slice x.q x.pub.length x.c)∧w.cell? ⟨g,o+i*3+2,none⟩=some (.string x.pre))∧BytesL w x.q x.pub
theorem GsAt.below {w w':World} {p:Option Addr} {L:List GrV} (h:GsAt w p L) (hb:Below w.heap.size w w'):GsAt w' p L:=fun h0=>by
 obtain ⟨g,o,e,hg,hc⟩:=h h0
 exact ⟨g,o,e,Nat.lt_of_lt_of_le hg hb.size,fun i x hx=>by
  obtain ⟨⟨h1,h2,h3⟩,h4⟩:=hc i x hx
  exact ⟨⟨(hb.cell (p:=⟨g,o+i*3,none⟩) hg).trans h1,(hb.cell (p:=⟨g,o+i*3+1,none⟩) hg).trans h2,(hb.cell (p:=⟨g,o+i*3+2,none⟩) hg).trans h3⟩,h4.below hb⟩⟩
def fG (L:List GrV) (t:Int):Option GrV:=L.find? (fun x=>x.cl==t)
theorem fG_some:∀ {L:List GrV} {t:Int} {k:Nat} {x:GrV},L[k]?=some x→x.cl=t→(∀ j y,j<k→L[j]?=some y→¬ y.cl=t)→fG L t=some x
 | [],_,_,_,h,_,_=>by simp at h
 | y::L,t,0,x,h,e,_=>by
  obtain rfl:y=x:=by simpa using h
  simp [fG,e]
 | y::L,t,k+1,x,h,e,hn=>by
  have h0:=hn 0 y (by omega) (by simp)
  have h1:=fG_some (L:=L) (k:=k) (by simpa using h) e (fun j z hj hz=>hn (j+1) z (by omega) (by simpa using hz))
  unfold fG at h1 ⊢
  rw [List.find?_cons_of_neg (by simpa using h0)]
  exact h1
theorem fG_none {L:List GrV} {t:Int} (h:∀ (j:Nat) (y:GrV),L[j]?=some y→¬ y.cl=t):fG L t=none:=by
 unfold fG
 rw [List.find?_eq_none]
 intro x hx
 obtain ⟨j,hj⟩:=List.mem_iff_getElem?.1 hx
 simpa using h j x hj
def IxP (L:List GrV) (t v:Int):Prop:=(∃ (k:Nat) (x:GrV),v=(k:Int)∧L[k]?=some x∧fG L t=some x)∨(v = -1∧fG L t=none)
set_option maxRecDepth 20000 in
set_option maxHeartbeats 1000000 in
theorem find1_c (cl t:Int) (q:Option Addr) (n c:Nat) (pre:ByteArray) (gC:Nat) (w:World) (hC:w.cell? ⟨gC,0,none⟩=some (.int .i64 t)) (lC:gC<w.heap.size) :
  Calls Tryz.prog 220 #[.agg #[.int .i64 cl,.slice q n c,.string pre],.pointer (some ⟨gC,0,none⟩)] w (PostV (.bool (cl==t)) w):=by
 go_enter Tryz.func220,Tryz.ntmps220
 go_wp2
 go_returns
 exact ⟨rfl,by go_grown⟩
set_option maxRecDepth 20000 in
set_option maxHeartbeats 2000000 in
theorem ixG_c (p:Option Addr) (n c:Nat) (L:List GrV) (t:Int) (hn:n=L.length) (hn2:n≤1000000) (gC:Nat) (w:World) (hG:GsAt w p L) (hC:w.cell? ⟨gC,0,none⟩=some (.int .i64 t)) (lC:gC<w.heap.size) :
  Calls Tryz.prog 219 #[.slice p n c,.func (.func 220) #[] #[.pointer (some ⟨gC,0,none⟩)]] w fun e w'=>(∃ v:Int,e=.returned (.int .i64 v)∧IxP L t v)∧Below w.heap.size w w':=by
 have hF:=Lib.hid (fun (x:GrV) w1 (hb:Below w.heap.size w w1)=>find1_c x.cl t x.q x.pub.length x.c x.pre gC w1 ((hb.cell (p:=⟨gC,0,none⟩) lC).trans hC) (Nat.lt_of_lt_of_le lC hb.size))
 replace hG:=Lib.hid hG
 replace hn:=Lib.hid hn
 clear hC
 go_enter Tryz.func219,Tryz.ntmps219
 go_wp2
 go_loopw [8] (fun i wr=>∃ k:Nat,k≤n∧i=.int .i64 k∧(∀ (j:Nat) (y:GrV),j<k→L[j]?=some y→¬ y.cl=t)∧Below w.heap.size w wr) (fun i _=>(n-intOf i).toNat)
 case atStart=>exact ⟨0,by omega,rfl,fun j y h=>absurd h (by omega),Below.refl _ _⟩
 case round =>
  obtain ⟨k,hk,rfl,hno,hb⟩:=hrel
  by_cases he:k=n
  ·subst he
   have hnone:=Lib.hid (fG_none (L:=L) (t:=t) (fun j y hj=>hno j y (by have:=hn.out;have:=(List.getElem?_eq_some_iff.1 hj).1;omega) hj))
   clear hno hF
   go_wp2
   go_returns
   exact ⟨⟨-1,rfl,.inr ⟨rfl,hnone.out⟩⟩,hb⟩
  have hkl:k<L.length:=by have:=hn.out;omega
  obtain ⟨x,hx⟩:∃ x,L[k]?=some x:=⟨_,List.getElem?_eq_getElem hkl⟩
  obtain ⟨g,o,rfl,hg,hc⟩:=(hG.out.below hb) (by omega)
  obtain ⟨⟨y0,y1,y2⟩,-⟩:=hc k x hx
  have j0:(0:Int)≤(k:Int):=by omega
  have j1:(k:Int)<(n:Int):=by omega
  have j2:k<n:=by omega
  replace hx:=Lib.hid hx
  have hno':=Lib.hid hno
  have cF:=Lib.hid (hF.out x)
  have hb':=Lib.hid hb
  clear hc he hk hno
  go_wp2_with fail
  refine (cF.out wr hb'.out).mono ?_
  rintro e w2 ⟨rfl,hb2⟩
  have hb3:=Lib.hid (hb'.out.trans (hb2.mono hb'.out.size))
  clear hb hb2 y0 y1 y2 cF
  by_cases hcl:x.cl=t
  ·have e1:(x.cl==t)=true:=by simp [hcl]
   have hs:=Lib.hid (fG_some hx.out hcl hno'.out)
   rw [e1]
   clear e1 hcl
   go_wp2
   go_returns
   exact ⟨⟨(k:Int),rfl,.inl ⟨k,x,rfl,hx.out,hs.out⟩⟩,hb3.out⟩
  have e1:(x.cl==t)=false:=by simp [hcl]
  rw [e1]
  have hcl':=Lib.hid hcl
  clear e1 hcl
  go_wp2
  exact ⟨⟨k+1,by omega,by simp,fun j y hj hy=>by
   by_cases e:j=k
   ·subst e
    rw [hx.out] at hy
    obtain rfl:x=y:=by injection hy
    exact hcl'.out
   exact hno'.out j y (by omega) hy,hb3.out⟩,by simp [intOf];omega⟩
end Go.Proofs.YtnopjabcdloepaaGreatDoor.Rc

namespace Go.Proofs.YtnopjabcdloepaaGreatDoor.Rc
open Go Go.RowKit
theorem setThree (w:World) (g:Nat) (a0 a1 a2:Value) {v0 v1 v2:Value} {t:TypeId} (h:Blk w g t #[v0,v1,v2]):Blk (((w.setCell ⟨g,0,none⟩ a0).setCell ⟨g,1,none⟩ a1).setCell ⟨g,2,none⟩ a2) g t #[a0,a1,a2]∧w.grownBy (((w.setCell ⟨g,0,none⟩ a0).setCell ⟨g,1,none⟩ a1).setCell ⟨g,2,none⟩ a2) (some g):=by
 have h0:Blk (w.setCell ⟨g,0,none⟩ a0) g t #[a0,v1,v2]:=h.set_ 0 a0
 have h1:Blk ((w.setCell ⟨g,0,none⟩ a0).setCell ⟨g,1,none⟩ a1) g t #[a0,a1,v2]:=h0.set_ 1 a1
 have h2:Blk (((w.setCell ⟨g,0,none⟩ a0).setCell ⟨g,1,none⟩ a1).setCell ⟨g,2,none⟩ a2) g t #[a0,a1,a2]:=h1.set_ 2 a2
 exact ⟨h2,grown_tr7 (grown_tr7 (wgrown_set _ _ _ _) (wgrown_set _ _ _ _)) (wgrown_set _ _ _ _)⟩
theorem blk3v {w:World} {g:Nat} {t:TypeId} {x0 x1 x2:Value} (h:Blk w g t #[x0,x1,x2]):w.cell? ⟨g,0,none⟩=some x0∧w.cell? ⟨g,1,none⟩=some x1∧w.cell? ⟨g,2,none⟩=some x2:=⟨h.cell 0,h.cell 1,h.cell 2⟩
set_option maxRecDepth 20000 in
set_option maxHeartbeats 2000000 in
theorem find_s (p:Option Addr) (n c:Nat) (L:List GrV) (t:Int) (x:GrV) (hx:fG L t=some x) (hn:n=L.length) (hn2:n≤1000000) (w:World) (hG:GsAt w p L) :
  Calls Tryz.prog 125 #[.agg #[.slice p n c],.int .i64 t] w (PostV (.tuple #[.agg #[.int .i64 x.cl,.slice x.q x.pub.length x.c,.string x.pre],.bool true]) w):=by
 have hmf:∀ (fn:Fn) (first cap:Array Value) (w:World),(Instr.makeFunc fn first cap).run Tryz.prog w=.ok (.func fn first cap) w:=fun _ _ _ _=>rfl
 have hix:=Lib.hid (fun gC w1 (hb:Below w.heap.size w w1) (hC:Blk w1 gC 3 #[.int .i64 t])=>ixG_c p n c L t hn hn2 gC w1 (hG.below hb) (hC.cell 0) hC.lt)
 replace hG:=Lib.hid hG
 replace hx:=Lib.hid hx
 replace hn:=Lib.hid hn
 go_enter Tryz.func125,Tryz.ntmps125
 go_wp2_with fail
 refine calls_at (fun W hW=>?_)
 have hb0:Below w.heap.size w W:=by rw [hW];go_grown
 obtain ⟨gT,hgT⟩:∃ g,g=w.heap.size:=⟨_,rfl⟩
 obtain ⟨gC,hgC⟩:∃ g,g=w.heap.size+1:=⟨_,rfl⟩
 obtain ⟨gZ,hgZ⟩:∃ g,g=w.heap.size+1+1:=⟨_,rfl⟩
 have kT:Blk W gT 163 #[.slice p n c]:=by rw [hW,hgT];exact ((Blk.new _ _ _).alloc _).alloc _
 have kC:Blk W gC 3 #[.int .i64 t]:=by rw [hW,hgC];exact (blk_at (by simp) (Blk.new _ _ _)).alloc _
 have kZ:Blk W gZ 51 #[.int .i64 0,.slice none 0 0,.string ⟨#[]⟩]:=by rw [hW,hgZ];exact blk_at (by simp) (Blk.new _ _ _)
 have lZ:w.heap.size≤gZ:=by omega
 rw [← hgZ,← hgC,← hgT]
 clear hW hgT hgC hgZ
 refine (hix.out gC W hb0 kC).mono ?_
 rintro e w2 ⟨⟨v,rfl,hv⟩,hb⟩
 rcases hv with ⟨k,x',rfl,hk,hf⟩ | ⟨rfl,hf⟩
 ·have ex:x'=x:=by rw [hx.out] at hf;injection hf with hf;exact hf.symm
  subst ex
  replace kT:=kT.below hb
  replace kZ:=kZ.below hb
  replace hb0:=hb0.trans (hb.mono hb0.size)
  have hkl:=(List.getElem?_eq_some_iff.1 hk).1
  obtain ⟨g,o,rfl,hg,hc⟩:=(hG.out.below hb0) (by omega)
  obtain ⟨⟨y0,y1,y2⟩,-⟩:=hc k x' hk
  have xT:w2.cell? ⟨gT,0,none⟩=some (.slice (some ⟨g,o,none⟩) n c):=kT.cell 0
  have j0:(0:Int)≤(k:Int):=by omega
  have j1:(k:Int)<(n:Int):=by have:=hn.out;omega
  obtain ⟨z0,z1,z2⟩:=blk3v kZ
  have f0:=kZ.frozen 0
  have f1:=kZ.frozen 1
  have f2:=kZ.frozen 2
  have lZ2:=kZ.lt
  have lT2:=kT.lt
  have hs:=hb0.size
  have hS3:=Lib.hid (setThree w2 gZ (.int .i64 x'.cl) (.slice x'.q x'.pub.length x'.c) (.string x'.pre) kZ)
  replace hb0:=Lib.hid hb0
  clear hb hc hk hkl hf hix kC kT kZ hx
  go_wp2_with fail
  obtain ⟨kF,hgF⟩:=hS3.out
  generalize ((w2.setCell ⟨gZ,0,none⟩ (.int .i64 x'.cl)).setCell ⟨gZ,1,none⟩ (.slice x'.q x'.pub.length x'.c)).setCell ⟨gZ,2,none⟩ (.string x'.pre)=w13 at *
  obtain ⟨u0,u1,u2⟩:=blk3v kF
  have hbf:Below w.heap.size w w13:=hb0.out.grown hgF hs (fun k hk=>by have:gZ=k:=Option.some.inj hk;omega)
  exact bodyPost_ret (v:=.tuple #[.agg #[.int .i64 x'.cl,.slice x'.q x'.pub.length x'.c,.string x'.pre],.bool true]) (by simp [results,Tryz.results125,go_sem,u0,u1,u2]) rfl ⟨rfl,hbf⟩
 rw [hx.out] at hf
 cases hf
set_option maxRecDepth 20000 in
set_option maxHeartbeats 2000000 in
theorem find_n (p:Option Addr) (n c:Nat) (L:List GrV) (t:Int) (hx:fG L t=none) (hn:n=L.length) (hn2:n≤1000000) (w:World) (hG:GsAt w p L) :
  Calls Tryz.prog 125 #[.agg #[.slice p n c],.int .i64 t] w (PostV (.tuple #[.agg #[.int .i64 0,.slice none 0 0,.string ⟨#[]⟩],.bool false]) w):=by
 have hmf:∀ (fn:Fn) (first cap:Array Value) (w:World),(Instr.makeFunc fn first cap).run Tryz.prog w=.ok (.func fn first cap) w:=fun _ _ _ _=>rfl
 have hix:=Lib.hid (fun gC w1 (hb:Below w.heap.size w w1) (hC:Blk w1 gC 3 #[.int .i64 t])=>ixG_c p n c L t hn hn2 gC w1 (hG.below hb) (hC.cell 0) hC.lt)
 clear hG
 replace hx:=Lib.hid hx
 replace hn:=Lib.hid hn
 go_enter Tryz.func125,Tryz.ntmps125
 go_wp2_with fail
 refine calls_at (fun W hW=>?_)
 have hb0:Below w.heap.size w W:=by rw [hW];go_grown
 obtain ⟨gC,hgC⟩:∃ g,g=w.heap.size+1:=⟨_,rfl⟩
 obtain ⟨gZ,hgZ⟩:∃ g,g=w.heap.size+1+1:=⟨_,rfl⟩
 have kC:Blk W gC 3 #[.int .i64 t]:=by rw [hW,hgC];exact (blk_at (by simp) (Blk.new _ _ _)).alloc _
 have kZ:Blk W gZ 51 #[.int .i64 0,.slice none 0 0,.string ⟨#[]⟩]:=by rw [hW,hgZ];exact blk_at (by simp) (Blk.new _ _ _)
 have lZ:w.heap.size≤gZ:=by omega
 rw [← hgZ,← hgC]
 clear hW hgC hgZ
 refine (hix.out gC W hb0 kC).mono ?_
 rintro e w2 ⟨⟨v,rfl,hv⟩,hb⟩
 rcases hv with ⟨k,x',rfl,hk,hf⟩ | ⟨rfl,hf⟩
 ·rw [hx.out] at hf
  cases hf
 replace kZ:=kZ.below hb
 replace hb0:=hb0.trans (hb.mono hb0.size)
 obtain ⟨z0,z1,z2⟩:=blk3v kZ
 have f0:=kZ.frozen 0
 have f1:=kZ.frozen 1
 have f2:=kZ.frozen 2
 have lZ2:=kZ.lt
 have hs:=hb0.size
 have hS3:=Lib.hid (setThree w2 gZ (.int .i64 0) (.slice none 0 0) (.string ⟨#[]⟩) kZ)
 replace hb0:=Lib.hid hb0
 clear hb hf hix kC kZ hx
 go_wp2_with fail
 obtain ⟨kF,hgF⟩:=hS3.out
 generalize ((w2.setCell ⟨gZ,0,none⟩ (.int .i64 0)).setCell ⟨gZ,1,none⟩ (.slice none 0 0)).setCell ⟨gZ,2,none⟩ (.string ⟨#[]⟩)=w13 at *
 obtain ⟨u0,u1,u2⟩:=blk3v kF
 have hbf:Below w.heap.size w w13:=hb0.out.grown hgF hs (fun k hk=>by have:gZ=k:=Option.some.inj hk;omega)
 exact bodyPost_ret (v:=.tuple #[.agg #[.int .i64 0,.slice none 0 0,.string ⟨#[]⟩],.bool false]) (by simp [results,Tryz.results125,go_sem,u0,u1,u2]) rfl ⟨rfl,hbf⟩
def PostFg (x:GrV) (is:Bool) (w:World) (e:Ending) (w':World):Prop:=∃ q' c',e=.returned (.tuple #[.agg #[.int .i64 x.cl,.slice q' x.pub.length c',.string x.pre],.bool is])∧w'.ownsRow w.heap.size 5 1 (.slice q' x.pub.length c') x.pub.length (bL x.pub)∧Below w.heap.size w w'
def gr0:GrV:=⟨0,none,0,[],⟨#[]⟩⟩
set_option maxRecDepth 20000 in
set_option maxHeartbeats 2000000 in
theorem Find_x (p:Option Addr) (n c:Nat) (t:Int) (x:GrV) (is:Bool) (hp:x.pub.length≤1000000) (w:World) (hX:BytesL w x.q x.pub) (hf:∀ w1,Below w.heap.size w w1→Calls Tryz.prog 125 #[.agg #[.slice p n c],.int .i64 t] w1 (PostV (.tuple #[.agg #[.int .i64 x.cl,.slice x.q x.pub.length x.c,.string x.pre],.bool is]) w1)) :
  Calls Tryz.prog 43 #[.slice p n c,.int .i64 t] w (PostFg x is w):=by
 have hcl:=fun w1 (hb:Below w.heap.size w w1)=>cloneB_c x.q x.pub.length x.c x.pub rfl hp w1 (hX.below hb)
 unfold PostFg
 obtain ⟨cl,q,c0,pub,pre⟩:=x
 dsimp only at *
 replace hcl:=Lib.hid hcl
 replace hf:=Lib.hid hf
 clear hX
 go_enter Tryz.func43,Tryz.ntmps43
 go_wp2_with fail
 refine calls_at (fun W hW=>?_)
 have hb0:Below w.heap.size w W:=by rw [hW];go_grown
 obtain ⟨gZ,hgZ⟩:∃ g,g=w.heap.size:=⟨_,rfl⟩
 have kZ:Blk W gZ 51 #[.int .i64 0,.slice none 0 0,.string ⟨#[]⟩]:=by rw [hW,hgZ];exact Blk.new _ _ _
 have lZ:w.heap.size≤gZ:=by omega
 rw [← hgZ]
 clear hW hgZ
 refine (hf.out W hb0).mono ?_
 rintro e w2 ⟨rfl,hb⟩
 replace kZ:=kZ.below hb
 replace hb0:=hb0.trans (hb.mono hb0.size)
 clear hb hf
 go_wp2_with fail
 refine calls_at (fun W2 hW=>?_)
 have hb:Below w2.heap.size w2 W2:=by rw [hW];go_grown
 obtain ⟨gX,hgX⟩:∃ g,g=w2.heap.size:=⟨_,rfl⟩
 have kX:Blk W2 gX 51 #[.int .i64 cl,.slice q pub.length c0,.string pre]:=by rw [hW,hgX];exact Blk.new _ _ _
 have nZX:gZ≠gX:=by have:=kZ.lt;omega
 have lX:w.heap.size≤gX:=by have:=hb0.size;omega
 rw [← hgX]
 clear hW hgX
 replace kZ:=kZ.below hb
 replace hb0:=hb0.trans (hb.mono hb0.size)
 clear hb
 refine (hcl.out W2 hb0).mono ?_
 rintro e w3 ⟨q',c',rfl,ho,hb⟩
 have lX2:=kX.lt
 have lZ2:=kZ.lt
 replace kX:=kX.below hb
 replace kZ:=kZ.below hb
 have hs2:=hb0.size
 replace hb0:=hb0.trans (hb.mono hb0.size)
 have hs3:=hb0.size
 clear hb hcl
 have y1:=(blk3v kX).2.1
 have f1:=kX.frozen 1
 have lX3:=kX.lt
 replace kZ:=Lib.hid kZ
 replace kX:=Lib.hid kX
 replace ho:=Lib.hid ho
 replace hb0:=Lib.hid hb0
 go_upto_region 3 with fail
 refine at_world (fun w4 hW=>?_)
 have kX4:=kX.out.set_ 1 (.slice q' pub.length c')
 have hg4:=wgrown_set w3 gX 1 (.slice q' pub.length c')
 rw [← hW] at kX4 hg4
 have kZ4:=kZ.out.grown hg4 (fun e=>nZX (Option.some.inj e))
 have ho4:=own_grown ho.out hg4 (fun g e=>by injection e;omega)
 have hb4:Below w.heap.size w w4:=hb0.out.grown hg4 hs3 (fun k hk=>by have:gX=k:=Option.some.inj hk;omega)
 clear hW kX kZ ho hb0 hg4 y1 f1 lX3
 obtain ⟨y0,y1,y2⟩:=blk3v kX4
 obtain ⟨z0,z1,z2⟩:=blk3v kZ4
 have f0:=kZ4.frozen 0
 have f1:=kZ4.frozen 1
 have f2:=kZ4.frozen 2
 have lZ3:=kZ4.lt
 have lX3:=kX4.lt
 have hs:=hb4.size
 have hS3:=Lib.hid (setThree w4 gZ (.int .i64 cl) (.slice q' pub.length c') (.string pre) kZ4)
 replace hb4:=Lib.hid hb4
 replace ho4:=Lib.hid ho4
 clear kX4 kZ4
 go_wp2_with fail
 obtain ⟨kF,hgF⟩:=hS3.out
 generalize ((w4.setCell ⟨gZ,0,none⟩ (.int .i64 cl)).setCell ⟨gZ,1,none⟩ (.slice q' pub.length c')).setCell ⟨gZ,2,none⟩ (.string pre)=w13 at *
 obtain ⟨u0,u1,u2⟩:=blk3v kF
 have hbf:Below w.heap.size w w13:=hb4.out.grown hgF hs (fun k hk=>by have:gZ=k:=Option.some.inj hk;omega)
 exact bodyPost_ret (v:=.tuple #[.agg #[.int .i64 cl,.slice q' pub.length c',.string pre],.bool is]) (by simp [results,Tryz.results43,go_sem,u0,u1,u2]) rfl ⟨q',c',rfl,own_mono (own_grown ho4.out hgF (fun g e=>by injection e;omega)) hs2,hbf⟩
theorem Find_s (p:Option Addr) (n c:Nat) (L:List GrV) (t:Int) (x:GrV) (hx:fG L t=some x) (hn:n=L.length) (hn2:n≤1000000) (hp:x.pub.length≤1000000) (w:World) (hG:GsAt w p L):Calls Tryz.prog 43 #[.slice p n c,.int .i64 t] w (PostFg x true w):=by
 obtain ⟨k,hk⟩:=List.mem_iff_getElem?.1 (List.mem_of_find?_eq_some hx)
 obtain ⟨g,o,_,_,hc⟩:=hG (by have:=(List.getElem?_eq_some_iff.1 hk).1;omega)
 exact Find_x p n c t x true hp w (hc k x hk).2 (fun w1 hb=>find_s p n c L t x hx hn hn2 w1 (hG.below hb))
theorem Find_n (p:Option Addr) (n c:Nat) (L:List GrV) (t:Int) (hx:fG L t=none) (hn:n=L.length) (hn2:n≤1000000) (w:World) (hG:GsAt w p L):Calls Tryz.prog 43 #[.slice p n c,.int .i64 t] w (PostFg gr0 false w) :=
 Find_x p n c t gr0 false (by decide) w (fun h=>absurd h (by decide)) (fun w1 hb=>find_n p n c L t hx hn hn2 w1 (hG.below hb))
end Go.Proofs.YtnopjabcdloepaaGreatDoor.Rc

namespace Go.Proofs.YtnopjabcdloepaaGreatDoor.Rc
open Go Go.RowKit
def rightG:Int→List GrV→Bool
 | _,[]=>true
 | l,x::L=>decide (¬ x.cl≤l∧¬ 8<x.cl∧x.pub.length=32∧¬ 64<x.pre.size)&&rightG x.cl L
theorem rightG_no {l:Int} {x:GrV} {L:List GrV} (h:¬ (¬ x.cl≤l∧¬ 8<x.cl∧x.pub.length=32∧¬ 64<x.pre.size)):rightG l (x::L)=false:=by
 unfold rightG
 rw [decide_eq_false h,Bool.false_and]
theorem rightG_yes {l:Int} {x:GrV} {L:List GrV} (h:¬ x.cl≤l∧¬ 8<x.cl∧x.pub.length=32∧¬ 64<x.pre.size):rightG l (x::L)=rightG x.cl L:=by
 conv=>lhs;unfold rightG
 rw [decide_eq_true h,Bool.true_and]
set_option maxRecDepth 20000 in
set_option maxHeartbeats 4000000 in
theorem tright_c (p:Option Addr) (n c:Nat) (L:List GrV) (hn:n=L.length) (hn2:n≤1000000) (w:World) (hG:GsAt w p L) :
  Calls Tryz.prog 121 #[.agg #[.slice p n c]] w (PostV (.bool (rightG 0 L)) w):=by
 obtain ⟨E,hE⟩:∃ E,E=rightG 0 L:=⟨_,rfl⟩
 rw [← hE]
 replace hE:=Lib.hid hE
 replace hG:=Lib.hid hG
 replace hn:=Lib.hid hn
 go_enter Tryz.func121,Tryz.ntmps121
 go_wp2_with fail
 refine at_world (fun W hW=>?_)
 have hb0:Below w.heap.size w W:=by rw [hW];go_grown
 clear hW
 go_loopw [3,9] (fun a i wr=>∃ (k:Nat) (l:Int),k≤n∧i=.int .i64 k∧a=.int .i64 l∧rightG l (L.drop k)=E∧Below w.heap.size w wr) (fun _ i _=>(n-intOf i).toNat)
 case atStart=>exact ⟨0,0,by omega,rfl,rfl,hE.out.symm,hb0⟩
 case round =>
  obtain ⟨k,l,hk,rfl,rfl,hr,hb⟩:=hrel
  clear hb0
  replace hr:=Lib.hid hr
  by_cases he:k=n
  ·subst he
   have h0:=Lib.hid (show E=true by rw [← hr.out,hn.out,List.drop_length];rfl)
   clear hr
   go_wp2
   go_returns
   exact ⟨by rw [h0.out];rfl,hb⟩
  have hkl:k<L.length:=by have:=hn.out;omega
  obtain ⟨x,hx⟩:∃ x,L[k]?=some x:=⟨_,List.getElem?_eq_getElem hkl⟩
  have hd:=Lib.hid (show L.drop k=x::L.drop (k+1) by rw [List.drop_eq_getElem_cons hkl];congr 1;exact Option.some.inj ((List.getElem?_eq_getElem hkl).symm.trans hx))
  obtain ⟨g,o,rfl,hg,hc⟩:=(hG.out.below hb) (by omega)
  obtain ⟨⟨y0,y1,y2⟩,-⟩:=hc k x hx
  have j0:(0:Int)≤(k:Int):=by omega
  have j1:(k:Int)<(n:Int):=by omega
  have j2:k<n:=by omega
  have hb':=Lib.hid hb
  clear hc hx he hkl hk
  obtain ⟨cl,q,c0,pub,pre⟩:=x
  dsimp only at y0 y1 y2
  obtain ⟨m,hm⟩:∃ m,m=pub.length:=⟨_,rfl⟩
  rw [← hm] at y1
  replace hm:=Lib.hid hm
  by_cases c1:cl≤l
  ·have h0:=Lib.hid (show E=false by rw [← hr.out,hd.out];exact rightG_no (fun h=>h.1 c1))
   clear hr hd
   go_wp2
   go_returns
   exact ⟨by rw [h0.out];rfl,hb'.out.alloc hb'.out.size _⟩
  by_cases c2:8<cl
  ·have h0:=Lib.hid (show E=false by rw [← hr.out,hd.out];exact rightG_no (fun h=>h.2.1 c2))
   clear hr hd
   go_wp2
   go_returns
   exact ⟨by rw [h0.out];rfl,hb'.out.alloc hb'.out.size _⟩
  by_cases c3:m=32
  ·subst c3
   by_cases c4:64<pre.size
   ·have h0:=Lib.hid (show E=false by rw [← hr.out,hd.out];exact rightG_no (fun h=>h.2.2.2 c4))
    have c5:(64:Int)<(pre.size:Int):=by omega
    clear hr hd
    go_wp2
    go_returns
    exact ⟨by rw [h0.out];rfl,hb'.out.alloc hb'.out.size _⟩
   have h0:=Lib.hid (show rightG cl (L.drop (k+1))=E by rw [← hr.out,hd.out];exact (rightG_yes (x:=⟨cl,q,c0,pub,pre⟩) ⟨c1,c2,hm.out.symm,c4⟩).symm)
   have c5:¬ (64:Int)<(pre.size:Int):=by omega
   clear hr hd
   go_wp2
   exact ⟨⟨k+1,cl,by omega,by simp,rfl,h0.out,hb'.out.alloc hb'.out.size _⟩,by simp [intOf];omega⟩
  have h0:=Lib.hid (show E=false by rw [← hr.out,hd.out];exact rightG_no (fun h=>c3 (hm.out.trans h.2.2.1)))
  have c5:((m:Int)==32)=false:=by simp;omega
  clear hr hd
  go_wp2
  go_returns
  exact ⟨by rw [h0.out];rfl,hb'.out.alloc hb'.out.size _⟩
set_option maxRecDepth 20000 in
set_option maxHeartbeats 1000000 in
theorem gRight_c (p:Option Addr) (n c:Nat) (L:List GrV) (hn:n=L.length) (hn2:n≤1000000) (w:World) (hG:GsAt w p L) :
  Calls Tryz.prog 39 #[.slice p n c] w (PostV (.bool (rightG 0 L)) w):=by
 have ht:=Lib.hid (tright_c p n c L hn hn2 w hG)
 clear hG hn
 generalize rightG 0 L=E at *
 go_enter Tryz.func39,Tryz.ntmps39
 go_wp2_with fail
 refine ht.out.mono ?_
 rintro e w2 ⟨rfl,hb⟩
 clear ht
 go_wp2
 go_returns
 exact ⟨rfl,hb⟩
end Go.Proofs.YtnopjabcdloepaaGreatDoor.Rc

namespace Go.Proofs.YtnopjabcdloepaaGreatDoor.Rc
open Go Go.RowKit
def sdB (n:Int) (j:Nat):Int:=wrap64 (wrap64 (n*7)+(j:Int)) % 256
theorem sdB_byt (n:Int):Sc.Byt (sdB n):=fun j=>by
 unfold sdB
 exact ⟨Int.emod_nonneg _ (by decide),Int.emod_lt_of_pos _ (by decide)⟩
set_option maxRecDepth 20000 in
set_option maxHeartbeats 2000000 in
theorem seed29_c (r:Int) (w:World):Calls Tryz.prog 84 #[.int .i64 r] w (PostBs 32 (sdB r) w):=by
 have hmk:∀ w,(Instr.makeSlice 22 (.int .i64 32) (.int .i64 32)).run Tryz.prog w=.ok (.slice (some ⟨w.heap.size,0,none⟩) 32 32) (w.alloc (.cells (List.replicate 32 (.int .u8 0)).toArray 5)):=fun _=>by kernel_rfl
 have hz:=Lib.hid (show RowB (w.alloc (.cells (List.replicate 32 (.int .u8 0)).toArray 5)) w.heap.size 32 32 (fun _=>0) from ⟨_,heap_alloc_new w _,Nat.le_refl _,by unfold maxLen;decide,rfl,by kernel_rfl⟩)
 have hb0:=Lib.hid (show Below w.heap.size w (w.alloc (.cells (List.replicate 32 (.int .u8 0)).toArray 5)) from (Below.refl _ _).alloc (Nat.le_refl _) _)
 obtain ⟨S,hS⟩:∃ S,S=sdB r:=⟨_,rfl⟩
 have hS':=Lib.hid hS
 rw [← hS]
 clear hS
 go_enter Tryz.func84,Tryz.ntmps84
 go_wp2
 obtain ⟨G,hG⟩:∃ g,g=w.heap.size:=⟨_,rfl⟩
 rw [← hG]
 replace hG:=Lib.hid hG
 go_loopw [4] (fun i wr=>∃ k:Nat,k≤32∧i=.int .i64 k∧RowB wr G 32 32 (fun j=>if j<k then S j else 0)∧Below w.heap.size w wr) (fun i _=>(32-intOf i).toNat)
 case atStart=>exact ⟨0,by omega,rfl,by rw [hG.out];exact (show RowB _ w.heap.size 32 32 (fun _=>0) from hz.out).congr (fun j _=>by rw [if_neg (by omega)]),hb0.out⟩
 case round =>
  obtain ⟨k,hk,hi,hR,hb⟩:=hrel
  subst hi
  by_cases he:k=32
  ·subst he
   have hl:w.heap.size≤G:=by rw [hG.out];exact Nat.le_refl _
   go_wp2
   go_returns
   exact ⟨G,32,rfl,hl,hR.congr (fun j hj=>if_pos hj),hb⟩
  have hk1:(k:Int)<32:=by omega
  have hk0:(0:Int)≤(k:Int):=by omega
  have hw3:wrap64 (wrap64 (r*7)+(k:Int)) % 256=S k:=by rw [hS'.out];rfl
  have x0:=hR.cell k (by omega)
  have x1:=hR.frozen k
  have hs:=Lib.hid ((hR.set_ k (by omega) (S k)).congr (f':=fun j=>if j<k+1 then S j else 0) (fun j _=>by
   show (if j=k then S k else if j<k then S j else 0)=_
   by_cases e:j=k
   ·subst e;rw [if_pos rfl,if_pos (by omega)]
   rw [if_neg e]
   by_cases e2:j<k
   ·rw [if_pos e2,if_pos (by omega)]
   rw [if_neg e2,if_neg (by omega)]))
  have hb2:=Lib.hid (hb.setCell (p:=⟨G,k,none⟩) (by show w.heap.size≤G;rw [hG.out];exact Nat.le_refl _) (.int .u8 (S k)))
  clear hR hb
  go_wp2
  exact ⟨⟨k+1,by omega,rfl,hs.out,hb2.out⟩,by simp [intOf];omega⟩
def GrV.cs (x:GrV):List Value:=[.int .i64 x.cl,.slice x.q x.pub.length x.c,.string x.pre]
structure RowsG (B:Nat) (w:World) (v:Value) (L:List GrV):Prop where
 own:w.ownsRow B 51 3 v L.length (L.flatMap GrV.cs)
 ok:∀ x∈L,BytesL w x.q x.pub∧∀ a,x.q=some a→v.ownBlock≠some a.block
theorem RowsG.below {B:Nat} {w w':World} {v:Value} {L:List GrV} (h:RowsG B w v L) (hb:Below w.heap.size w w'):RowsG B w' v L where
 own:=below_kept h.own hb
 ok:=fun x hx=>⟨(h.ok x hx).1.below hb,(h.ok x hx).2⟩
theorem RowsG.nil (B:Nat) (w:World):RowsG B w (.slice none 0 0) [] where
 own:=World.ownsRow_nil w B _ 3
 ok:=fun x hx=>by cases hx
theorem gflat_at:∀ (L:List GrV) (k:Nat) (x:GrV) (j:Nat),L[k]?=some x→j<3→(L.flatMap GrV.cs)[k*3+j]?=x.cs[j]?
 | [],k,x,j,h,_=>by simp at h
 | y::L,0,x,j,h,hj=>by
  obtain rfl:y=x:=by simpa using h
  rw [List.flatMap_cons,Nat.zero_mul,Nat.zero_add,List.getElem?_append_left (by show j<3;exact hj)]
 | y::L,k+1,x,j,h,hj=>by
  rw [List.flatMap_cons,List.getElem?_append_right (by show 3≤(k+1)*3+j;omega),show (k+1)*3+j-y.cs.length=k*3+j by show (k+1)*3+j-3=_;omega]
  exact gflat_at L k x j (by simpa using h) hj
theorem RowsG.sl {B:Nat} {w:World} {v:Value} {L:List GrV} (h:RowsG B w v L):∃ p c,v=.slice p L.length c:=by
 rcases h.own.2 with ⟨rfl,h0⟩ | ⟨g,cap,cur,rfl,_⟩
 ·exact ⟨none,0,by rw [h0]⟩
 exact ⟨_,_,rfl⟩
theorem RowsG.at {B:Nat} {w:World} {p:Option Addr} {n c:Nat} {L:List GrV} (h:RowsG B w (.slice p n c) L):GsAt w p L:=fun h0=>by
 have ho:=h.own
 rcases ho.2 with ⟨_,h1⟩ | ⟨g,cap,cur,e,_,hg,_⟩
 ·omega
 injection e with e1 e2 e3
 subst e1 e2 e3
 refine ⟨g,0,rfl,(Array.getElem?_eq_some_iff.1 hg).1,fun k x hk=>?_⟩
 have hl:k<L.length:=(List.getElem?_eq_some_iff.1 hk).1
 have hc:=fun j (hj:j<3)=>(ho.cellAt (k*3+j) (by have:(k+1)*3≤L.length*3:=Nat.mul_le_mul_right _ hl;omega)).trans (gflat_at L k x j hk hj)
 rw [Nat.zero_add]
 exact ⟨⟨hc 0 (by decide),hc 1 (by decide),hc 2 (by decide)⟩,(h.ok x (List.mem_of_getElem? hk)).1⟩
theorem grant_info:(Tryz.prog.info? 51).map (fun i=>(i.zero,i.size,i.bytes))=some (some (.agg #[.int .i64 0,.slice none 0 0,.string ⟨#[]⟩]),3,48):=by kernel_rfl
theorem grants_under:Tryz.prog.underlying 52=some (.slice 51):=by kernel_rfl
section
variable {ops:Array Oper} {rest:List Oper} {o:Oper} {a:Act} {w:World} {Q:Exit→Act→World→Prop}
theorem wpList_appG (hgd:o.guard=none) {s x:Operand} (ho:o.op=.call { callee:=.builtin .append,args:=#[s,x],argTypes:=#[52,52] }) {v:Value} (hs:a.eval s=v) {B g:Nat} {L:List GrV} (u:GrV) (hR:RowsG B w v L)
  (hx:a.eval x=.slice (some ⟨g,0,none⟩) 1 1) (hg:Blk w g 51 u.cs.toArray) (hu:BytesL w u.q u.pub) (hne:∀ a,u.q=some a→v.ownBlock≠some a.block) (hlt:∀ a,u.q=some a→a.block<w.heap.size) (hn:L.length≤1000) (hB:B≤w.heap.size)
  (h:∀ v' w',RowsG B w' v' (L++[u])→w.grownBy w' v.ownBlock→wpList Tryz.prog ops Q rest (a.put o.dst v') w') (hlL:∀ x∈L,∀ a,x.q=some a→a.block<w.heap.size):wpList Tryz.prog ops Q (o::rest) a w:=by
 obtain ⟨i0,hi,hz0,hz1,hz2⟩:=info_parts grant_info
 refine wpList_append_own_at w hgd s x 52 ho B 51 i0 _ 3 48 grants_under hi hz0 hz1 hz2 rfl (by decide) v L.length (L.flatMap GrV.cs) hs hR.own ⟨g,0,none⟩ 1 1 u.cs hx rfl (fun j y hy=>by rw [add_o,Nat.zero_add,hg.cell j];simpa using hy) (fun y hy=>?_) (by unfold maxLen;omega) (by omega) hB (fun v' w' h1 h2 _ h4=>h v' w' ?_ h2)
 ·simp only [GrV.cs,List.mem_cons,List.not_mem_nil,or_false] at hy
  rcases hy with rfl | rfl | rfl <;> rfl
 have hk:∀ x:GrV,BytesL w x.q x.pub→(∀ a,x.q=some a→v.ownBlock≠some a.block)→(∀ a,x.q=some a→a.block<w.heap.size)→BytesL w' x.q x.pub∧∀ a,x.q=some a→v'.ownBlock≠some a.block:=fun x hx n1 n2=>by
  refine ⟨fun h0=>?_,fun a ha e=>?_⟩
  ·obtain ⟨g',o',e',hg',hc'⟩:=hx h0
   exact ⟨g',o',e',Nat.lt_of_lt_of_le hg' h2.size,fun j hj=>(World.cell?_of_block (h2.block g' hg' (fun e=>n1 _ e' e.symm))).trans (hc' j hj)⟩
  rcases h4 with h4 | h4
  ·exact n1 a ha (h4.symm.trans e)
  have:=n2 a ha
  rw [h4] at e
  injection e with e
  omega
 refine ⟨?_,fun x hx=>?_⟩
 ·rw [List.length_append,List.flatMap_append]
  simpa using h1
 rcases List.mem_append.1 hx with hx | hx
 ·exact hk x (hR.ok x hx).1 (hR.ok x hx).2 (hlL x hx)
 obtain rfl:x=u:=by simpa using hx
 exact hk x hu hne hlt
end
end Go.Proofs.YtnopjabcdloepaaGreatDoor.Rc
