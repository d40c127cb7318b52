import Derived.Test.YtnopjabcdloepaaGreatDoorKh
import Derived.Lib.Strings
import Derived.Lib.Slices
import Derived.Laws.Strings3
import Derived.Lib.Walk
import Derived.Defers
import Derived.Recover
import Derived.Test.YtnopjabcdloepaaGreatDoorKi
import Derived.Deep.RegionHeld3
import Derived.Deep.AppendLies
import Derived.Test.YtnopjabcdloepaaGreatDoorKr
import Derived.Test.YtnopjabcdloepaaGreatDoorKg
import Derived.RegionTactic
namespace Go.Proofs.YtnopjabcdloepaaGreatDoor.Rc
open Go Go.RowKit
theorem gmust_t (c:Int) (w:World):Calls Tryz.prog 120 #[.bool true,.int .i64 c] w fun e w'=>e=.returned (.tuple #[])∧w=w':=by
 go_enter Tryz.func120,Tryz.ntmps120
 go_wp2
 go_returns
 exact ⟨rfl,rfl⟩
def gErr (c:Int):List PanicEntry:=[{ v:=.iface 27 (.int .i64 c),recovered:=false }]
theorem gmust_f (c:Int) (w:World):Calls Tryz.prog 120 #[.bool false,.int .i64 c] w fun e w'=>e=.panicked (gErr c)∧w=w':=by
 go_enter Tryz.func120,Tryz.ntmps120
 go_wp2
 exact ⟨rfl,⟨rfl,rfl⟩⟩
def hpB (k pre:ByteArray):Bool:=Lib.hasPrefix k.data.toList pre.data.toList
set_option maxHeartbeats 1000000 in
theorem lhp_c (s p:ByteArray) (w:World):Calls Tryz.prog 307 #[.string s,.string p] w fun e w'=>e=.returned (.bool (hpB s p))∧w'=w:=by
 unfold hpB
 rw [← Lib.hasPrefix_of_take,← Lib.size_eq,← Lib.size_eq]
 go_enter Tryz.func307,Tryz.ntmps307
 go_wp2
 ·rename_i h
  go_returns
  refine ⟨?_,rfl⟩
  show Ending.returned (Value.bool ((s.extract 0 p.size).toList==p.toList))=_
  rw [Lib.extract_toList,Lib.toList_data]
  simp [h]
 rename_i h
 go_returns
 refine ⟨?_,rfl⟩
 show Ending.returned (Value.bool false)=_
 simp [h]
theorem hp_c (s p:ByteArray) (w:World):Calls Tryz.prog 218 #[.string s,.string p] w (PostV (.bool (hpB s p)) w):=by
 have h:=Lib.hid (lhp_c s p w)
 generalize hpB s p=E at *
 go_enter Tryz.func218,Tryz.ntmps218
 go_wp2_with fail
 refine h.out.mono ?_
 rintro e w' ⟨rfl,rfl⟩
 clear h
 go_wp2_with fail
 go_returns
 exact ⟨rfl,Below.refl _ _⟩
def lkI (RT IS HP:Bool) (CK:Int):Int:=if RT then (if IS&&HP then CK else 21) else 4
def PostLk (c:Int) (w:World) (e:Ending) (w':World):Prop:=(c=0→e=.returned (.tuple #[]))∧(c≠0→e=.panicked (gErr c))∧Below w.heap.size w w'
set_option maxRecDepth 20000 in
set_option maxHeartbeats 4000000 in
theorem look_g (p:Option Addr) (n c:Nat) (k:ByteArray) (cl sq:Int) (p1:Option Addr) (n1 c1:Nat) (gone:Bool) (p2:Option Addr) (n2 c2:Nat) (p3:Option Addr) (n3 c3:Nat) (xcl:Int) (xq:Option Addr) (xn xc:Nat) (xpre:ByteArray) (RT IS:Bool) (CK:Int) (w:World)
  (hrt:∀ w1,Below w.heap.size w w1→Calls Tryz.prog 63 #[.agg #[.string k,.int .i64 cl,.int .i64 sq,.slice p1 n1 c1,.bool gone,.slice p2 n2 c2,.slice p3 n3 c3]] w1 (PostV (.bool RT) w1))
  (hfi:∀ w1,Below w.heap.size w w1→Calls Tryz.prog 125 #[.agg #[.slice p n c],.int .i64 cl] w1 (PostV (.tuple #[.agg #[.int .i64 xcl,.slice xq xn xc,.string xpre],.bool IS]) w1))
  (hck:RT=true→IS=true→∀ w1,Below w.heap.size w w1→Calls Tryz.prog 66 #[.slice xq xn xc,.agg #[.string k,.int .i64 cl,.int .i64 sq,.slice p1 n1 c1,.bool gone,.slice p2 n2 c2,.slice p3 n3 c3]] w1 (PostV (.int .i64 CK) w1)) :
  Calls Tryz.prog 122 #[.agg #[.slice p n c],.agg #[.string k,.int .i64 cl,.int .i64 sq,.slice p1 n1 c1,.bool gone,.slice p2 n2 c2,.slice p3 n3 c3]] w (PostLk (lkI RT IS (hpB k xpre) CK) w):=by
 have hm4:=Lib.hid (gmust_f 4)
 have hm21:=Lib.hid (gmust_f 21)
 have ht4:=Lib.hid (gmust_t 4)
 have ht21:=Lib.hid (gmust_t 21)
 have hp:=Lib.hid (fun w1=>hp_c k xpre w1)
 generalize hpB k xpre=HP at *
 replace hrt:=Lib.hid hrt
 replace hfi:=Lib.hid hfi
 go_enter Tryz.func122,Tryz.ntmps122
 go_wp2_with fail
 refine calls_at (fun W hW=>?_)
 have hb0:Below w.heap.size w W:=by rw [hW];go_grown
 obtain ⟨gT,hgT⟩:∃ g,g=w.heap.size:=⟨_,rfl⟩
 obtain ⟨gR,hgR⟩:∃ g,g=w.heap.size+1:=⟨_,rfl⟩
 have kT:Blk W gT 165 #[.slice p n c]:=by rw [hW,hgT];exact (Blk.new _ _ _).alloc _
 have kR:Blk W gR 45 #[.string k,.int .i64 cl,.int .i64 sq,.slice p1 n1 c1,.bool gone,.slice p2 n2 c2,.slice p3 n3 c3]:=by rw [hW,hgR];exact blk_at (by simp) (Blk.new _ _ _)
 rw [← hgR,← hgT]
 clear hW hgT hgR
 refine (hrt.out W hb0).mono ?_
 rintro e w2 ⟨rfl,hb⟩
 replace kT:=kT.below hb
 replace kR:=kR.below hb
 replace hb0:=hb0.trans (hb.mono hb0.size)
 clear hb hrt
 cases RT with
 | false =>
  replace hb0:=Lib.hid hb0
  go_wp2_with fail
  refine (hm4.out w2).mono ?_
  rintro e w3 ⟨rfl,rfl⟩
  go_wp2_with fail
  exact ⟨rfl,fun h=>absurd h (by simp [lkI]),fun _=>rfl,hb0.out⟩
 | true =>
 go_wp2_with fail
 refine (ht4.out w2).mono ?_
 rintro e w3 ⟨rfl,rfl⟩
 have yT:w2.cell? ⟨gT,0,none⟩=some (.slice p n c):=kT.cell 0
 obtain ⟨y0,y1,y2,y3,y4,y5,y6⟩:=blk7 kR
 have lR:=kR.lt
 have lT:=kT.lt
 go_wp2_with fail
 refine (hfi.out w2 hb0).mono ?_
 rintro e w4 ⟨rfl,hb⟩
 replace kR:=kR.below hb
 replace hb0:=hb0.trans (hb.mono hb0.size)
 clear hb hfi yT lT kT y0 y1 y2 y3 y4 y5 y6 lR
 cases IS with
 | false =>
  replace hb0:=Lib.hid hb0
  go_wp2_with fail
  refine calls_at (fun W4 hW=>?_)
  have hb:Below w4.heap.size w4 W4:=by rw [hW];go_grown
  have hb5:=Lib.hid (hb0.out.trans (hb.mono hb0.out.size))
  clear hW hb
  refine (hm21.out W4).mono ?_
  rintro e w5 ⟨rfl,rfl⟩
  go_wp2_with fail
  exact ⟨rfl,fun h=>absurd h (by simp [lkI]),fun _=>rfl,hb5.out⟩
 | true =>
 replace hck:=Lib.hid (hck (by trivial) (by trivial))
 obtain ⟨y0,y1,y2,y3,y4,y5,y6⟩:=blk7 kR
 have lR:=kR.lt
 go_wp2_with fail
 refine calls_at (fun W4 hW=>?_)
 have hb:Below w4.heap.size w4 W4:=by rw [hW];go_grown
 obtain ⟨gX,hgX⟩:∃ g,g=w4.heap.size:=⟨_,rfl⟩
 have kX:Blk W4 gX 51 #[.int .i64 xcl,.slice xq xn xc,.string xpre]:=by rw [hW,hgX];exact Blk.new _ _ _
 rw [← hgX]
 replace kR:=kR.below hb
 replace hb0:=hb0.trans (hb.mono hb0.size)
 clear hW hgX hb y0 y1 y2 y3 y4 y5 y6 lR
 refine (hp.out W4).mono ?_
 rintro e w5 ⟨rfl,hb⟩
 replace kR:=kR.below hb
 replace kX:=kX.below hb
 replace hb0:=hb0.trans (hb.mono hb0.size)
 clear hb hp
 cases HP with
 | false =>
  replace hb0:=Lib.hid hb0
  go_wp2_with fail
  refine (hm21.out w5).mono ?_
  rintro e w6 ⟨rfl,rfl⟩
  go_wp2_with fail
  exact ⟨rfl,fun h=>absurd h (by simp [lkI]),fun _=>rfl,hb0.out⟩
 | true =>
 go_wp2_with fail
 refine (ht21.out w5).mono ?_
 rintro e w6 ⟨rfl,rfl⟩
 obtain ⟨y0,y1,y2,y3,y4,y5,y6⟩:=blk7 kR
 have lR:=kR.lt
 have z1:=(blk3v kX).2.1
 have lX:=kX.lt
 go_wp2_with fail
 refine (hck.out w5 hb0).mono ?_
 rintro e w7 ⟨rfl,hb⟩
 replace hb0:=Lib.hid (hb0.trans (hb.mono hb0.size))
 clear hb hck kR kX y0 y1 y2 y3 y4 y5 y6 lR z1 lX
 by_cases h0:CK=0
 ·subst h0
  go_wp2_with fail
  go_returns
  exact ⟨fun _=>rfl,fun h=>absurd rfl h,hb0.out⟩
 have b0:(CK==0)=false:=by simp [h0]
 have e0:=Lib.hid (show lkI true true true CK=CK from rfl)
 rw [e0.out]
 replace h0:=Lib.hid h0
 go_wp2_with fail
 exact ⟨rfl,fun h=>absurd h h0.out,fun _=>rfl,hb0.out⟩
def lkR (L:List GrV) (r:RecD):Int:=lkI (rightR r.k.size r.cl r.sq r.n r.ds r.gone r.vs.length r.ss.length) (fG L r.cl).isSome (hpB r.k ((fG L r.cl).getD gr0).pre) (ckR (gB ((fG L r.cl).getD gr0).pub) r)
theorem look_c (p:Option Addr) (n c:Nat) (L:List GrV) (hn:n=L.length) (hn2:n≤1000000) (hL:∀ x∈L,x.pub.length=32∧BR x.pub∧x.pub.length≤x.c) (r:RecD) (hok:r.ok) (p1:Option Addr) (c1:Nat) (p2:Option Addr) (c2:Nat) (p3:Option Addr) (c3:Nat) (hc3:r.ss.length≤c3) (w:World) (hG:GsAt w p L) (hD:DotsL w p1 r.n r.ds) (hV:BytesL w p2 r.vs) (hSs:BytesL w p3 r.ss) (hS:ShP w) (hCv:CvP w) :
  Calls Tryz.prog 122 #[.agg #[.slice p n c],recV r p1 c1 p2 c2 p3 c3] w (PostLk (lkR L r) w):=by
 have hB:=hS.lt
 have hrt:=fun w1 (hb:Below w.heap.size w w1)=>recRight_c r.k r.cl r.sq p1 r.n c1 r.gone p2 r.vs.length c2 p3 r.ss.length c3 r.ds (by have:=hok.1;omega) w1 (hD.below hb)
 unfold lkR
 cases hx:fG L r.cl with
 | none =>
  exact look_g p n c r.k r.cl r.sq p1 r.n c1 r.gone p2 r.vs.length c2 p3 r.ss.length c3 0 none 0 0 ⟨#[]⟩ _ false _ w hrt (fun w1 hb=>find_n p n c L r.cl hx hn hn2 w1 (hG.below hb)) (fun _ h=>by cases h)
 | some x =>
  have hxm:x∈L:=List.mem_of_find?_eq_some hx
  obtain ⟨h32,hbr,hcap⟩:=hL x hxm
  obtain ⟨j,hj⟩:=List.mem_iff_getElem?.1 hxm
  obtain ⟨g,o,_,_,hc⟩:=hG (by have:=(List.getElem?_eq_some_iff.1 hj).1;omega)
  have hX:=(hc j x hj).2
  refine look_g p n c r.k r.cl r.sq p1 r.n c1 r.gone p2 r.vs.length c2 p3 r.ss.length c3 x.cl x.q x.pub.length x.c x.pre _ true _ w hrt (fun w1 hb=>find_s p n c L r.cl x hx hn hn2 w1 (hG.below hb)) (fun _ _ w1 hb=>?_)
  obtain ⟨gk,ok,e,lk,hk⟩:=hX (by omega)
  rw [e,h32]
  exact Check_any (gB x.pub) (gB_byt hbr) gk ok x.c (by omega) r hok p1 c1 p2 c2 p3 c3 hc3 w1 (Nat.lt_of_lt_of_le lk hb.size) (fun j hj=>(hb.cell (p:=⟨gk,ok+j,none⟩) lk).trans ((hk j (by omega)).trans rfl)) (hD.below hb) (hV.below hb) (hSs.below hb) (hS.below hb hB) (hCv.below hb hCv.lt)
end Go.Proofs.YtnopjabcdloepaaGreatDoor.Rc

namespace Go.Proofs.YtnopjabcdloepaaGreatDoor.Rc
open Go Go.RowKit
theorem gnil_neq (w:World):(binOp .neq 20 .nilIface .nilIface).run Tryz.prog w=.ok (.bool false) w:=by kernel_rfl
theorem gerr_neq (c:Int) (w:World):(binOp .neq 20 (.iface 27 (.int .i64 c)) .nilIface).run Tryz.prog w=.ok (.bool true) w:=by kernel_rfl
theorem gerr_is (c:Int) (w:World):(Instr.typeAssert (.iface 27 (.int .i64 c)) 20 27 true).run Tryz.prog w=.ok (.tuple #[.int .i64 c,.bool true]) w:=by kernel_rfl
set_option maxRecDepth 20000 in
set_option maxHeartbeats 1000000 in
theorem mayD_idle (ge:Nat) (w:World) :
  CallsD Tryz.prog 119 #[.pointer (some ⟨ge,0,none⟩)] .returning w fun e u' w'=>e=.returned (.tuple #[])∧u'=.returning∧w'=w:=by
 have hnn:=gnil_neq
 refine callsD_of_wpS Tryz.func119 rfl fun c₀ cs hu=>?_
 apply wpS_seq
 apply wpS_region
 simp [wpOpsS,go_sem,recoverD,hu,Tryz.ntmps119,Exit.thenS]
 refine wpS_of_wp ?_
 rw [show (#[.pointer (some ⟨ge,0,none⟩)]++((Array.replicate 13 undef).setIfInBounds 2 .nilIface).setIfInBounds 0 .nilIface)=#[.pointer (some ⟨ge,0,none⟩),.nilIface,undef,.nilIface,undef,undef,undef,undef,undef,undef,undef,undef,undef,undef] by kernel_rfl]
 go_wp2_with fail
 cases c₀
 simp_all [bodyPostS,results,Tryz.results119]
set_option maxRecDepth 20000 in
set_option maxHeartbeats 1000000 in
theorem mayD_err (ge:Nat) (c x:Int) (older:List PanicEntry) (w:World) (he:w.cell? ⟨ge,0,none⟩=some (.int .i64 x)) (hez:w.frozen? ⟨ge,0,none⟩=false) :
  CallsD Tryz.prog 119 #[.pointer (some ⟨ge,0,none⟩)] (.panicking ({ v:=.iface 27 (.int .i64 c),recovered:=false }::older)) w fun e u' w' =>
   e=.returned (.tuple #[])∧u'=.panicking ({ v:=.iface 27 (.int .i64 c),recovered:=true }::older)∧w'=w.setCell ⟨ge,0,none⟩ (.int .i64 c):=by
 have hnm:=gerr_neq c
 have hta:=gerr_is c
 refine callsD_of_wpS Tryz.func119 rfl fun c₀ cs hu=>?_
 apply wpS_seq
 apply wpS_region
 simp [wpOpsS,go_sem,recoverD,hu,Tryz.ntmps119,Exit.thenS]
 refine wpS_of_wp ?_
 rw [show (#[.pointer (some ⟨ge,0,none⟩)]++((Array.replicate 13 undef).setIfInBounds 2 (.iface 27 (.int .i64 c))).setIfInBounds 0 (.iface 27 (.int .i64 c)))=#[.pointer (some ⟨ge,0,none⟩),(.iface 27 (.int .i64 c)),undef,(.iface 27 (.int .i64 c)),undef,undef,undef,undef,undef,undef,undef,undef,undef,undef] by kernel_rfl]
 go_wp2
 simp [bodyPostS,results,Tryz.results119]
def firstR (L:List GrV):List RecD→Int
 | []=>0
 | r::rs=>if lkR L r=0 then firstR L rs else lkR L r
def mayR (L:List GrV) (rs:List RecD):Int:=if rightG 0 L then firstR L rs else 2
theorem rightG_all:∀ {L:List GrV} {l:Int},rightG l L=true→∀ x∈L,x.pub.length=32
 | y::L,l,h,x,hx=>by
  unfold rightG at h
  rw [Bool.and_eq_true,decide_eq_true_eq] at h
  rcases List.mem_cons.1 hx with rfl | hx
  ·exact h.1.2.2.1
  exact rightG_all h.2 x hx
set_option maxRecDepth 20000 in
set_option maxHeartbeats 4000000 in
theorem May_c (p:Option Addr) (n c:Nat) (L:List GrV) (hn:n=L.length) (hn2:n≤1000000) (hL:∀ x∈L,BR x.pub∧x.pub.length≤x.c) (q:Option Addr) (m d:Nat) (rs:List RecD) (hm:m=rs.length) (hm2:m≤1000000) (hok:∀ r∈rs,r.ok) (w:World) (hG:GsAt w p L) (hR:RecsC [] w q rs) (hS:ShP w) (hCv:CvP w) :
  Calls Tryz.prog 38 #[.slice p n c,.slice q m d] w (PostV (.int .i64 (mayR L rs)) w):=by
 have hB:=hS.lt
 have hmf:∀ (fn:Fn) (first cap:Array Value) (w:World),(Instr.makeFunc fn first cap).run Tryz.prog w=.ok (.func fn first cap) w:=fun _ _ _ _=>rfl
 have hm2':=Lib.hid (gmust_f 2)
 have ht2:=Lib.hid (gmust_t 2)
 have htr:=Lib.hid (fun w1 (hb:Below w.heap.size w w1)=>tright_c p n c L hn hn2 w1 (hG.below hb))
 have hlk:=Lib.hid (fun (hr:rightG 0 L=true) (r:RecD) (hr2:r∈rs) p1 c1 p2 c2 p3 c3 w1 (hb:Below w.heap.size w w1) (hc3:r.ss.length≤c3) (hD:DotsL w1 p1 r.n r.ds) (hV:BytesL w1 p2 r.vs) (hSs:BytesL w1 p3 r.ss)=>look_c p n c L hn hn2 (fun x hx=>⟨rightG_all hr x hx,(hL x hx).1,(hL x hx).2⟩) r (hok r hr2) p1 c1 p2 c2 p3 c3 hc3 w1 (hG.below hb) hD hV hSs (hS.below hb hB) (hCv.below hb hCv.lt))
 obtain ⟨RG,hRG⟩:∃ RG,RG=rightG 0 L:=⟨_,rfl⟩
 obtain ⟨E,hE⟩:∃ E,E=firstR L rs:=⟨_,rfl⟩
 obtain ⟨M,hM⟩:∃ M,M=mayR L rs:=⟨_,rfl⟩
 have hM2:M=if RG then E else 2:=by rw [hM,hRG,hE];rfl
 rw [← hRG] at htr hlk
 rw [← hM]
 replace hm:=Lib.hid hm
 replace hE:=Lib.hid hE
 replace hM2:=Lib.hid hM2
 replace hR:=Lib.hid hR
 clear hG hL hn hn2 hok hS hCv hB hRG hM
 go_enter_defers Tryz.func38,Tryz.ntmps38
 go_wp2_with fail
 obtain ⟨gE,hgE⟩:∃ g,g=w.heap.size:=⟨_,rfl⟩
 obtain ⟨gT,hgT⟩:∃ g,g=w.heap.size+1:=⟨_,rfl⟩
 refine calls_at (fun W hW=>?_)
 have hb0:Below w.heap.size w W:=by rw [hW];go_grown
 have kE:Blk W gE 27 #[.int .i64 0]:=by rw [hW,hgE];exact (Blk.new _ _ _).alloc _
 have kT:Blk W gT 165 #[.slice p n c]:=by rw [hW,hgT];exact blk_at (by simp) (Blk.new _ _ _)
 have lo:w.heap.size≤gE:=by omega
 have lne:gE≠gT:=by omega
 rw [← hgT,← hgE]
 clear hW hgE hgT
 refine (htr.out W hb0).mono ?_
 rintro e w2 ⟨rfl,hb⟩
 replace kE:=kE.below hb
 replace kT:=kT.below hb
 replace hb0:=hb0.trans (hb.mono hb0.size)
 clear hb htr
 cases RG with
 | false =>
  replace hb0:=Lib.hid hb0
  have hM3:=Lib.hid (show M=2 from hM2.out)
  clear hM2 hlk hE
  go_wp2_with fail
  refine (hm2'.out w2).mono ?_
  rintro e w3 ⟨rfl,rfl⟩
  have cE:w2.cell? ⟨gE,0,none⟩=some (.int .i64 0):=kE.cell 0
  have fE:=kE.frozen 0
  have lE:=kE.lt
  have hfin:=Lib.hid (hb0.out.setCell (p:=⟨gE,0,none⟩) lo (.int .i64 2))
  have cF:=Lib.hid (World.cell?_setCell_same w2 ⟨gE,0,none⟩ (.int .i64 2) cE)
  clear kE kT
  unfold gErr
  go_wp2_with fail
  refine leaves_cons (f:=119) (args:=#[.pointer (some ⟨gE,0,none⟩)]) (by simp) (by simp [go_sem]) ?_
  refine (mayD_err gE 2 0 [] _ cE fE).mono ?_
  rintro e u' w'' ⟨rfl,rfl,rfl⟩
  have cG:=cF.out
  simp only [Leaves,settle,List.dropWhile_nil]
  refine ⟨.int .i64 2,?_,by rw [hM3.out],hfin.out⟩
  simp [results,Tryz.results38,go_sem,cG]
 | true =>
 have hM3:=Lib.hid (show M=E from hM2.out)
 replace hlk:=Lib.hid (hlk.out rfl)
 clear hM2
 go_wp2_with fail
 refine (ht2.out w2).mono ?_
 rintro e w3 ⟨rfl,rfl⟩
 have kE0:=Lib.hid kE
 have kT0:=Lib.hid kT
 have hbq:=Lib.hid hb0
 clear kE kT hb0
 go_wp2_with fail
 go_loopw [18] (fun i wr=>∃ k:Nat,k≤m∧i=.int .i64 k∧firstR L (rs.drop k)=E∧Blk wr gE 27 #[.int .i64 0]∧Blk wr gT 165 #[.slice p n c]∧Below w.heap.size w wr) (fun i _=>(m-intOf i).toNat)
 case atStart=>exact ⟨0,by omega,rfl,hE.out.symm,kE0.out,kT0.out,hbq.out⟩
 case round =>
  obtain ⟨k,hk,rfl,hr,kE,kT,hb⟩:=hrel
  by_cases he:k=m
  ·subst he
   have hE0:=Lib.hid (show E=0 by rw [← hr,hm.out,List.drop_length];rfl)
   have cE:wr.cell? ⟨gE,0,none⟩=some (.int .i64 0):=kE.cell 0
   have fE:=kE.frozen 0
   have lE:=kE.lt
   have hfin:=Lib.hid (hb.setCell (p:=⟨gE,0,none⟩) lo (.int .i64 0))
   have cF:=Lib.hid (World.cell?_setCell_same wr ⟨gE,0,none⟩ (.int .i64 0) cE)
   clear kE kT kE0 kT0 hbq hb hr hlk
   go_wp2_with fail
   refine leaves_cons (f:=119) (args:=#[.pointer (some ⟨gE,0,none⟩)]) (by simp) (by simp [go_sem]) ?_
   refine (mayD_idle gE _).mono ?_
   rintro e u' w'' ⟨rfl,rfl,rfl⟩
   have cG:=cF.out
   simp only [Leaves,settle]
   refine ⟨.int .i64 0,?_,by rw [hM3.out,hE0.out],hfin.out⟩
   simp [results,Tryz.results38,go_sem,cG]
  have hkl:k<rs.length:=by have:=hm.out;omega
  obtain ⟨x,hx⟩:∃ x,rs[k]?=some x:=⟨_,List.getElem?_eq_getElem hkl⟩
  have hd:rs.drop k=x::rs.drop (k+1):=by rw [List.drop_eq_getElem_cons hkl];congr 1;exact Option.some.inj ((List.getElem?_eq_getElem hkl).symm.trans hx)
  rw [hd] at hr
  have hr':(if lkR L x=0 then firstR L (rs.drop (k+1)) else lkR L x)=E:=hr
  obtain ⟨C,hC⟩:∃ C,C=lkR L x:=⟨_,rfl⟩
  rw [← hC] at hr'
  obtain ⟨g,o,rfl,hg,s1,e1,s2,e2,s3,e3,hrec,y0,y1,y2,y3,y4,y5,y6⟩:=(hR.out.ext (.below hb)).get hx
  have j0:(0:Int)≤(k:Int):=by omega
  have j1:(k:Int)<(m:Int):=by omega
  have j2:k<m:=by omega
  have hb':=Lib.hid hb
  have hs:=Lib.hid hb.size
  have hr2:=Lib.hid hr'
  have cL:=Lib.hid (fun w1 (hb1:Below wr.heap.size wr w1)=>show Calls Tryz.prog 122 #[.agg #[.slice p n c],.agg #[.string x.k,.int .i64 x.cl,.int .i64 x.sq,.slice s1 x.n e1,.bool x.gone,.slice s2 x.vs.length e2,.slice s3 x.ss.length e3]] w1 (PostLk C w1) from by
   rw [hC]
   exact hlk.out x (List.mem_of_getElem? hx) s1 e1 s2 e2 s3 e3 w1 (hb'.out.trans (hb1.mono hs.out)) hrec.2.2.2.2 (hrec.1.d.below hb1) (hrec.2.1.b.below hb1) (hrec.2.2.1.b.below hb1))
  clear hr hr' hd hx hkl he hk hb hrec hlk kE0 kT0 hbq hC
  have yT:wr.cell? ⟨gT,0,none⟩=some (.slice p n c):=kT.cell 0
  have lT:=kT.lt
  go_wp2_with fail
  refine calls_at (fun W2 hW=>?_)
  have hb2:Below wr.heap.size wr W2:=by rw [hW];go_grown
  clear hW
  replace kE:=kE.below hb2
  replace kT:=kT.below hb2
  have hbq:=hb'.out.trans (hb2.mono hs.out)
  refine (cL.out W2 hb2).mono ?_
  rintro e w3 ⟨h1,h2,hb3⟩
  replace kE:=kE.below hb3
  replace kT:=kT.below hb3
  replace hbq:=hbq.trans (hb3.mono hbq.size)
  clear hb3 hb2 y0 y1 y2 y3 y4 y5 y6 yT lT cL hb' hs hg
  by_cases h0:C=0
  ·obtain rfl:=h1 h0
   have hr3:=Lib.hid (show firstR L (rs.drop (k+1))=E by have:=hr2.out;rwa [if_pos h0] at this)
   replace hbq:=Lib.hid hbq
   replace kE:=Lib.hid kE
   replace kT:=Lib.hid kT
   clear h1 h2 hr2 h0
   go_wp2_with fail
   exact ⟨⟨k+1,by omega,by simp,hr3.out,kE.out,kT.out,hbq.out⟩,by simp [intOf];omega⟩
  obtain rfl:=h2 h0
  have hE0:=Lib.hid (show E=C by have:=hr2.out;rw [if_neg h0] at this;exact this.symm)
  have cE:w3.cell? ⟨gE,0,none⟩=some (.int .i64 0):=kE.cell 0
  have fE:=kE.frozen 0
  have hfin:=Lib.hid (hbq.setCell (p:=⟨gE,0,none⟩) lo (.int .i64 C))
  have cF:=Lib.hid (World.cell?_setCell_same w3 ⟨gE,0,none⟩ (.int .i64 C) cE)
  clear kE kT h1 h2 hr2 h0 hbq
  unfold gErr
  go_wp2_with fail
  refine leaves_cons (f:=119) (args:=#[.pointer (some ⟨gE,0,none⟩)]) (by simp) (by simp [go_sem]) ?_
  refine (mayD_err gE C 0 [] _ cE fE).mono ?_
  rintro e u' w'' ⟨rfl,rfl,rfl⟩
  have cG:=cF.out
  simp only [Leaves,settle,List.dropWhile_nil]
  refine ⟨.int .i64 C,?_,by rw [hM3.out,hE0.out],hfin.out⟩
  simp [results,Tryz.results38,go_sem,cG]
end Go.Proofs.YtnopjabcdloepaaGreatDoor.Rc

namespace Go.Proofs.YtnopjabcdloepaaGreatDoor.Rc
open Go Go.RowKit
set_option maxRecDepth 20000 in
set_option maxHeartbeats 4000000 in
theorem copyBytes_o (p:Option Addr) (n c:Nat) (xs:List Int) (hn:n=xs.length) (hn2:n≤1000000) (w:World) (hB:BytesL w p xs):Calls Tryz.prog 54 #[.slice p n c] w fun e w'=>∃ q m d,e=.returned (.slice q m d)∧m=xs.length∧w'.ownsRow w.heap.size 5 1 (.slice q m d) m (bL xs)∧Below w.heap.size w w':=by
 have hown:w.ownsRow w.heap.size 5 1 (.slice none 0 0) 0 (bL []):=⟨rfl,.inl ⟨rfl,rfl⟩⟩
 have hb:0+n≤1000000000:=by omega
 replace hown:=Lib.hid hown
 replace hB:=Lib.hid hB
 replace hn:=Lib.hid hn
 go_enter Tryz.func54,Tryz.ntmps54
 go_wp2_with (refine wpList_appB rfl rfl rfl hown.out rfl hn.out hB.out hb (Nat.le_refl _) ?_;intro v' w2 hown2 hgr hat;replace hown2:=Lib.hid hown2;replace hgr:=Lib.hid hgr;clear hat hown hB)
 go_returns
 have ho:=hown2.out
 rw [Nat.zero_add,List.nil_append] at ho
 obtain ⟨q,d,rfl⟩:=own_sl ho
 exact ⟨q,n,d,rfl,hn.out,ho,(Below.refl w.heap.size w).grown (row:=none) hgr.out (Nat.le_refl _) (fun g h=>by cases h)⟩
set_option maxRecDepth 20000 in
set_option maxHeartbeats 4000000 in
theorem copyDots_o (p:Option Addr) (n c:Nat) (ds:List Int) (hn2:n≤1000000) (w:World) (hX:DotsL w p n ds):Calls Tryz.prog 145 #[.slice p n c] w fun e w'=>∃ q d,e=.returned (.slice q n d)∧w'.ownsRow w.heap.size 175 2 (.slice q n d) n (dotL ds)∧Below w.heap.size w w':=by
 have hown:w.ownsRow w.heap.size 175 2 (.slice none 0 0) 0 (dotL []):=⟨rfl,.inl ⟨rfl,rfl⟩⟩
 replace hown:=Lib.hid hown
 replace hX:=Lib.hid hX
 go_enter Tryz.func145,Tryz.ntmps145
 go_wp2_with (refine wpList_appD2 rfl rfl rfl hown.out rfl hX.out (by omega) (Nat.le_refl _) ?_;intro v' w2 hown2 hgr hat;replace hown2:=Lib.hid hown2;replace hgr:=Lib.hid hgr;clear hat hX hown)
 go_returns
 have ho:=hown2.out
 rw [Nat.zero_add,List.nil_append] at ho
 obtain ⟨q,d,rfl⟩:=own_sl ho
 exact ⟨q,d,rfl,ho,(Below.refl w.heap.size w).grown (row:=none) hgr.out (Nat.le_refl _) (fun g h=>by cases h)⟩
def PostRo (r:RecD) (w:World) (e:Ending) (w':World):Prop:=∃ q1 d1 q2 d2 q3 d3,e=.returned (.agg #[.string r.k,.int .i64 r.cl,.int .i64 r.sq,.slice q1 r.n d1,.bool r.gone,.slice q2 r.vs.length d2,.slice q3 r.ss.length d3])∧w'.ownsRow w.heap.size 175 2 (.slice q1 r.n d1) r.n (dotL r.ds)∧w'.ownsRow w.heap.size 5 1 (.slice q2 r.vs.length d2) r.vs.length (bL r.vs)∧w'.ownsRow w.heap.size 5 1 (.slice q3 r.ss.length d3) r.ss.length (bL r.ss)∧Below w.heap.size w w'
set_option maxRecDepth 20000 in
set_option maxHeartbeats 4000000 in
theorem copyRec_o (k:ByteArray) (cl sq:Int) (p1:Option Addr) (n1 c1:Nat) (gone:Bool) (p2:Option Addr) (n2 c2:Nat) (p3:Option Addr) (n3 c3:Nat) (ds vs ss:List Int) (hn1:n1≤400000) (hn2:n2=vs.length) (hn2':n2≤1000000) (hn3:n3=ss.length) (hn3':n3≤1000000) (w:World) (hD:DotsL w p1 n1 ds) (hV:BytesL w p2 vs) (hS:BytesL w p3 ss) :
  Calls Tryz.prog 65 #[.agg #[.string k,.int .i64 cl,.int .i64 sq,.slice p1 n1 c1,.bool gone,.slice p2 n2 c2,.slice p3 n3 c3]] w (PostRo ⟨k,cl,sq,n1,ds,gone,vs,ss⟩ w):=by
 have cd:=fun w' hb=>copyDots_o p1 n1 c1 ds (by omega) w' (hD.below (w:=w) (w':=w') hb)
 have cv:=fun w' hb=>copyBytes_o p2 n2 c2 vs hn2 hn2' w' (hV.below (w:=w) (w':=w') hb)
 have csg:=fun w' hb=>copyBytes_o p3 n3 c3 ss hn3 hn3' w' (hS.below (w:=w) (w':=w') hb)
 replace cd:=Lib.hid cd
 replace cv:=Lib.hid cv
 replace csg:=Lib.hid csg
 clear hD hV hS hn2 hn3 hn2' hn3'
 go_enter Tryz.func65,Tryz.ntmps65
 go_wp2_with fail
 refine calls_at (fun W0 hW=>?_)
 have hA:Blk W0 w.heap.size 45 #[.string k,.int .i64 cl,.int .i64 sq,.slice p1 n1 c1,.bool gone,.slice p2 n2 c2,.slice p3 n3 c3]:=by rw [hW];exact (Blk.new _ _ _).alloc _
 have hR:∃ cs,cs.size=7∧Blk W0 (w.heap.size+1) 45 cs:=by rw [hW];exact ⟨_,rfl,blk_at (by simp) (Blk.new _ _ _)⟩
 have hb0:Below w.heap.size w W0:=by rw [hW];go_grown
 clear hW
 obtain ⟨cs,hcs,hR⟩:=hR
 obtain ⟨GA,hGA⟩:∃ GA,GA=w.heap.size:=⟨_,rfl⟩
 obtain ⟨GR,hGR⟩:∃ GR,GR=w.heap.size+1:=⟨_,rfl⟩
 rw [← hGR] at hR ⊢
 rw [← hGA] at hA ⊢
 have hAR:GR≠GA:=by omega
 have hAR2:GA<GR:=by omega
 have hGw:w.heap.size≤GA:=by omega
 have hGw2:w.heap.size≤GR:=by omega
 clear hGA hGR
 have hlt0:=hR.lt
 refine (cd.out _ hb0).mono ?_
 rintro e w1 ⟨q1,d1,rfl,hD1,hb⟩
 replace hA:=hA.below hb
 replace hR:=hR.below hb
 replace hb0:=hb0.trans (hb.mono hb0.size)
 clear hb
 replace hD1:=own_mono hD1 (Nat.succ_le_of_lt hlt0)
 have hlt1:GR<w1.heap.size:=hR.lt
 have y3:=hA.cell 3
 simp only [List.getElem?_toArray,List.getElem?_cons_zero,List.getElem?_cons_succ] at y3
 have y5:=hA.cell 5
 simp only [List.getElem?_toArray,List.getElem?_cons_zero,List.getElem?_cons_succ] at y5
 have fA:=fun j=>hA.frozen j
 go_wp2_with fail
 clear y3 y5 fA
 refine calls_at (fun W1 hW=>?_)
 have hgW1:w1.grownBy W1 (some GA):=by rw [hW];exact grown_setCells GA [.slice q1 n1 d1] 3 w1
 replace hA:Blk W1 GA 45 #[.string k,.int .i64 cl,.int .i64 sq,.slice q1 n1 d1,.bool gone,.slice p2 n2 c2,.slice p3 n3 c3]:=by rw [hW];exact hA.set_ 3 (.slice q1 n1 d1)
 replace hR:=hR.grown hgW1 (fun h=>hAR (by injection h))
 replace hD1:=own_grown hD1 hgW1 (fun g h=>by injection h;omega)
 replace hb0:=hb0.grown hgW1 hb0.size (fun k h=>by injection h with h;omega)
 clear hW hgW1
 refine (cv.out _ hb0).mono ?_
 rintro e w2 ⟨q2,m2,d2,rfl,hm2,hV2,hb⟩
 replace hV2:=own_mono hV2 (Nat.succ_le_of_lt (show GR<W1.heap.size from hR.lt))
 replace hD1:=below_kept hD1 hb
 replace hA:=hA.below hb
 replace hR:=hR.below hb
 replace hb0:=hb0.trans (hb.mono hb0.size)
 clear hb
 have y5:=hA.cell 5
 simp only [List.getElem?_toArray,List.getElem?_cons_zero,List.getElem?_cons_succ] at y5
 have y6:=hA.cell 6
 simp only [List.getElem?_toArray,List.getElem?_cons_zero,List.getElem?_cons_succ] at y6
 have fA:=fun j=>hA.frozen j
 have hlt2:=hR.lt
 replace hm2:=Lib.hid hm2
 go_wp2_with fail
 clear y5 y6 fA
 refine calls_at (fun W2 hW=>?_)
 have hgW2:w2.grownBy W2 (some GA):=by rw [hW];exact grown_setCells GA [.slice q2 m2 d2] 5 w2
 replace hA:Blk W2 GA 45 #[.string k,.int .i64 cl,.int .i64 sq,.slice q1 n1 d1,.bool gone,.slice q2 m2 d2,.slice p3 n3 c3]:=by rw [hW];exact hA.set_ 5 (.slice q2 m2 d2)
 replace hR:=hR.grown hgW2 (fun h=>hAR (by injection h))
 replace hD1:=own_grown hD1 hgW2 (fun g h=>by injection h;omega)
 replace hV2:=own_grown hV2 hgW2 (fun g h=>by injection h;omega)
 replace hb0:=hb0.grown hgW2 hb0.size (fun k h=>by injection h with h;omega)
 clear hW hgW2
 refine (csg.out _ hb0).mono ?_
 rintro e w3 ⟨q3,m3,d3,rfl,hm3,hS3,hb⟩
 replace hS3:=own_mono hS3 (Nat.succ_le_of_lt (show GR<W2.heap.size from hR.lt))
 replace hD1:=below_kept hD1 hb
 replace hV2:=below_kept hV2 hb
 replace hA:=hA.below hb
 replace hR:=hR.below hb
 replace hb0:=hb0.trans (hb.mono hb0.size)
 clear hb
 obtain ⟨y0,y1,y2,y3,y4,y5,y6⟩:=blk7 hA
 have fA:=fun j=>hA.frozen j
 have hg3:=grown_setCells GA [.slice q3 m3 d3] 6 w3
 have hR':=hR.grown hg3 (fun h=>hAR (by injection h))
 replace hD1:=own_grown hD1 hg3 (fun g h=>by injection h;omega)
 replace hV2:=own_grown hV2 hg3 (fun g h=>by injection h;omega)
 replace hS3:=own_grown hS3 hg3 (fun g h=>by injection h;omega)
 replace hb0:=hb0.grown hg3 hb0.size (fun k h=>by injection h with h;omega)
 clear hg3 hR
 replace hm3:=Lib.hid hm3
 replace hD1:=Lib.hid hD1
 replace hV2:=Lib.hid hV2
 replace hS3:=Lib.hid hS3
 go_wp2_with (refine stRec rfl rfl rfl rfl hR' hcs (by kernel_rfl) ?_;intro w4 hR4 hg4 hs4;replace hg4:=Lib.hid hg4;clear y0 y1 y2 y3 y4 y5 y6 fA)
 obtain ⟨y0,y1,y2,y3,y4,y5,y6⟩:=blk7 hR4
 have hb4:=hb0.grown (w':=w4) (row:=some GR) hg4.out hb0.size (fun k h=>by injection h with h;omega)
 have hD4:=own_grown (w':=w4) (row:=some GR) hD1.out hg4.out (fun g h=>by injection h;omega)
 have hV4:=own_grown (w':=w4) (row:=some GR) hV2.out hg4.out (fun g h=>by injection h;omega)
 have hS4:=own_grown (w':=w4) (row:=some GR) hS3.out hg4.out (fun g h=>by injection h;omega)
 replace hD4:=Lib.hid hD4
 replace hV4:=Lib.hid hV4
 replace hS4:=Lib.hid hS4
 clear hD1 hV2 hS3 hg4 hs4
 have hmv:=hm2.out
 have hms:=hm3.out
 subst hmv hms
 exact retRec rfl rfl hR4 rfl ⟨q1,d1,q2,d2,q3,d3,rfl,own_mono hD4.out (by omega),own_mono hV4.out (by omega),own_mono hS4.out (by omega),hb4⟩
end Go.Proofs.YtnopjabcdloepaaGreatDoor.Rc

namespace Go.Proofs.YtnopjabcdloepaaGreatDoor.Rc
open Go Go.RowKit
def sd10 (n:Int) (j:Nat):Int:=if j=0 then n else 0
theorem sd10_byt {n:Int} (h:0≤n∧n<256):Sc.Byt (sd10 n):=fun j=>by
 unfold sd10
 split
 ·exact h
 exact (show (0:Int)≤0∧(0:Int)<256 by decide)
set_option maxRecDepth 20000 in
set_option maxHeartbeats 2000000 in
theorem seed10_c (r:Int) (w:World):Calls Tryz.prog 207 #[.int .u8 r] w (PostBs 32 (sd10 r) w):=by
 have hmk:∀ w,(Instr.makeSlice 22 (.int .i64 32) (.int .i64 32)).run Tryz.prog w=.ok (.slice (some ⟨w.heap.size,0,none⟩) 32 32) (w.alloc (.cells (List.replicate 32 (.int .u8 0)).toArray 5)):=fun _=>by kernel_rfl
 have hz:=Lib.hid (show RowB (w.alloc (.cells (List.replicate 32 (.int .u8 0)).toArray 5)) w.heap.size 32 32 (fun _=>0) from ⟨_,heap_alloc_new w _,Nat.le_refl _,by unfold maxLen;decide,rfl,by kernel_rfl⟩)
 have hb0:=Lib.hid (show Below w.heap.size w (w.alloc (.cells (List.replicate 32 (.int .u8 0)).toArray 5)) from (Below.refl _ _).alloc (Nat.le_refl _) _)
 go_enter Tryz.func207,Tryz.ntmps207
 go_upto_region 2 with fail
 refine at_world (fun W hW=>?_)
 have hR:RowB W w.heap.size 32 32 (fun _=>0):=by rw [hW];exact hz.out
 have hb:Below w.heap.size w W:=by rw [hW];exact hb0.out
 obtain ⟨G,hG⟩:∃ g,g=w.heap.size:=⟨_,rfl⟩
 rw [← hG] at hR ⊢
 have hl:w.heap.size≤G:=by omega
 clear hz hb0 hW hmk hG
 have x0:=hR.cell 0 (by decide)
 have x1:=hR.frozen 0
 have hs:=Lib.hid ((hR.set_ 0 (by decide) r).congr (f':=sd10 r) (fun j _=>rfl))
 have hb2:=Lib.hid (hb.setCell (p:=⟨G,0,none⟩) hl (.int .u8 r))
 clear hR hb
 go_wp2
 go_returns
 exact ⟨G,32,rfl,hl,hs.out,hb2.out⟩
def re10 (key:ByteArray) (t:Int):RecD:=⟨key,t,1,0,[],false,[],fL 64 (Sh.sigI (sd10 t) (tP key t 1 0 [] false []))⟩
def PostSe (key:ByteArray) (t:Int) (w:World) (e:Ending) (w':World):Prop:=∃ q1 d1 q2 d2 g3 d3,e=.returned (.agg #[.string key,.int .i64 t,.int .i64 1,.slice q1 0 d1,.bool false,.slice q2 0 d2,.slice (some ⟨g3,0,none⟩) 64 d3])∧w.heap.size≤g3∧RowB w' g3 64 d3 (Sh.sigI (sd10 t) (tP key t 1 0 [] false []))∧Below w.heap.size w w'
set_option maxRecDepth 20000 in
set_option maxHeartbeats 4000000 in
theorem sealed_c (key:ByteArray) (t:Int) (ht:0≤t∧t<256) (hsh:shB key.size t 1 0 [] false 0=true) (w:World) (hS:ShP w) (hCv:CvP w):Calls Tryz.prog 111 #[.string key,.int .i64 t] w (PostSe key t w):=by
 have hB:=hS.lt
 have hse:=Lib.hid (fun w1=>seed10_c t w1)
 have hsl:=Lib.hid (fun g c w1 (hb:Below w.heap.size w w1) (k:RowB w1 g 32 c (sd10 t))=>show Calls Tryz.prog 35 #[.slice (some ⟨g,0,none⟩) 32 c,.agg #[.string key,.int .i64 t,.int .i64 1,.slice none 0 0,.bool false,.slice none 0 0,.slice none 0 0]] w1 (PostSr (sd10 t) key t 1 0 [] false [] w1) from
  Seal_ok (some ⟨g,0,none⟩) c (sd10 t) k.cap (sd10_byt ht) ⟨key,t,1,0,[],false,[],[]⟩ ⟨Nat.zero_le _,Nat.zero_le _,Nat.zero_le _,(fun x hx=>by cases hx),(fun x hx=>by cases hx)⟩ none 0 none 0 none 0 hsh w1 k.bx ⟨rfl,fun h=>absurd h (Nat.lt_irrefl 0)⟩ (fun h=>absurd h (Nat.lt_irrefl 0)) (fun h=>absurd h (Nat.lt_irrefl 0)) (hS.below hb hB) (hCv.below hb hCv.lt))
 have hw:IntKind.u8.wrap t=t:=by simp [IntKind.wrap,IntKind.bits,IntKind.signed];omega
 generalize Sh.sigI (sd10 t) (tP key t 1 0 [] false [])=SG at *
 replace ht:=Lib.hid ht
 clear hsh hS hCv hB
 go_enter Tryz.func111,Tryz.ntmps111
 go_wp2_with fail
 refine calls_at (fun W hW=>?_)
 have hb0:Below w.heap.size w W:=by rw [hW];go_grown
 obtain ⟨gZ,hgZ⟩:∃ g,g=w.heap.size:=⟨_,rfl⟩
 have kZ:Blk W gZ 45 #[.string ⟨#[]⟩,.int .i64 0,.int .i64 0,.slice none 0 0,.bool false,.slice none 0 0,.slice none 0 0]:=by rw [hW,hgZ];exact Blk.new _ _ _
 have lZ:w.heap.size≤gZ:=by omega
 rw [← hgZ]
 clear hW hgZ
 refine (hse.out W).mono ?_
 rintro e w2 ⟨g,c,rfl,lg,kq,hb⟩
 replace kZ:=kZ.below hb
 replace hb0:=hb0.trans (hb.mono hb0.size)
 clear hb hse
 go_wp2_with fail
 refine (hsl.out g c w2 hb0 kq).mono ?_
 rintro e w3 ⟨q1,d1,q2,d2,g3,d3,rfl,-,-,lg3,kS,hb⟩
 have lZ2:=kZ.lt
 replace kZ:=kZ.below hb
 have lS:w.heap.size≤g3:=Nat.le_trans hb0.size lg3
 have nZS:gZ≠g3:=by omega
 replace hb0:=hb0.trans (hb.mono hb0.size)
 clear hb hsl kq lZ2 lg3
 go_upto_region 2 with fail
 refine at_world (fun W4 hW=>?_)
 have hb:Below w3.heap.size w3 W4:=by rw [hW];go_grown
 obtain ⟨gX,hgX⟩:∃ g,g=w3.heap.size:=⟨_,rfl⟩
 have kX:Blk W4 gX 45 #[.string key,.int .i64 t,.int .i64 1,.slice q1 0 d1,.bool false,.slice q2 0 d2,.slice (some ⟨g3,0,none⟩) 64 d3]:=by rw [hW,hgX];exact Blk.new _ _ _
 rw [← hgX]
 replace kZ:=kZ.below hb
 replace kS:=Lib.hid (kS.below hb)
 replace hb0:=hb0.trans (hb.mono hb0.size)
 clear hW hgX hb
 obtain ⟨y0,y1,y2,y3,y4,y5,y6⟩:=blk7 kX
 have hs:=hb0.size
 replace hb0:=Lib.hid hb0
 go_wp2_with (refine stRec rfl rfl rfl rfl kZ rfl (by kernel_rfl) ?_;intro w5 hR5 hg5 hs5)
 exact retRec rfl rfl hR5 rfl ⟨q1,d1,q2,d2,g3,d3,rfl,lS,kS.out.grown hg5 (fun e=>nZS (Option.some.inj e).symm),hb0.out.grown hg5 hs (fun k hk=>by have:gZ=k:=Option.some.inj hk;omega)⟩
section
variable {ops:Array Oper} {rest:List Oper} {o:Oper} {a:Act} {w:World} {Q:Exit→Act→World→Prop} {K:Act→World→Prop} {E:Prop}
theorem step_appG0 (hgd:o.guard=none) {s x:Operand} (ho:o.op=.call { callee:=.builtin .append,args:=#[s,x],argTypes:=#[52,52] }) (hs:a.eval s=.slice none 0 0) {g:Nat} (u:GrV)
  (hx:a.eval x=.slice (some ⟨g,0,none⟩) 1 1) (hg:Blk w g 51 u.cs.toArray)
  (h:∀ g' cap w',w'.ownsRow w.heap.size 51 3 (.slice (some ⟨g',0,none⟩) 1 cap) 1 u.cs→Below w.heap.size w w'→K (a.put o.dst (.slice (some ⟨g',0,none⟩) 1 cap)) w'):if Region.wanted o (yielded ops a.tmps)=true then Oper.wp Tryz.prog o a w K Q else E:=by
 obtain ⟨i0,hi,hz0,hz1,hz2⟩:=info_parts grant_info
 refine step_append_lies (w:=w) hgd s x 52 ho w.heap.size 51 i0 _ 3 48 grants_under hi hz0 hz1 hz2 rfl (by decide) (.slice none 0 0) 0 [] hs (World.ownsRow_nil w _ _ 3) ⟨g,0,none⟩ 1 1 u.cs hx rfl (fun j y hy=>by rw [add_o,Nat.zero_add,hg.cell j];simpa using hy) (fun y hy=>?_) (by decide) (by unfold maxLen;decide) (by decide) (Nat.le_refl _) _ rfl (fun g' cap w' h1 h2 _ _=>h g' cap w' h1 ((Below.refl w.heap.size w).grown (row:=none) h2 (Nat.le_refl _) (fun k hk=>by cases hk)))
 simp only [GrV.cs,List.mem_cons,List.not_mem_nil,or_false] at hy
 rcases hy with rfl | rfl | rfl <;> rfl
theorem wpList_appG0 (hgd:o.guard=none) {s x:Operand} (ho:o.op=.call { callee:=.builtin .append,args:=#[s,x],argTypes:=#[52,52] }) (hs:a.eval s=.slice none 0 0) {g:Nat} (u:GrV)
  (hx:a.eval x=.slice (some ⟨g,0,none⟩) 1 1) (hg:Blk w g 51 u.cs.toArray)
  (h:∀ g' cap w',w'.ownsRow w.heap.size 51 3 (.slice (some ⟨g',0,none⟩) 1 cap) 1 u.cs→Below w.heap.size w w'→wpList Tryz.prog ops Q rest (a.put o.dst (.slice (some ⟨g',0,none⟩) 1 cap)) w'):wpList Tryz.prog ops Q (o::rest) a w:=by
 obtain ⟨i0,hi,hz0,hz1,hz2⟩:=info_parts grant_info
 refine wpList_append_own_at w hgd s x 52 ho w.heap.size 51 i0 _ 3 48 grants_under hi hz0 hz1 hz2 rfl (by decide) (.slice none 0 0) 0 [] hs (World.ownsRow_nil w _ _ 3) ⟨g,0,none⟩ 1 1 u.cs hx rfl (fun j y hy=>by rw [add_o,Nat.zero_add,hg.cell j];simpa using hy) (fun y hy=>?_) (by unfold maxLen;decide) (by decide) (Nat.le_refl _) (fun v' w' h1 h2 _ h4=>?_)
 ·simp only [GrV.cs,List.mem_cons,List.not_mem_nil,or_false] at hy
  rcases hy with rfl | rfl | rfl <;> rfl
 have hb:Below w.heap.size w w':=(Below.refl w.heap.size w).grown (row:=none) h2 (Nat.le_refl _) (fun k hk=>by cases hk)
 have h1':w'.ownsRow w.heap.size 51 3 v' 1 u.cs:=by simpa using h1
 rcases h1'.2 with ⟨_,e⟩ | ⟨g',cap,cur,rfl,_⟩
 ·exact absurd e (by decide)
 exact h g' cap w' h1' hb
end
def PostG1 (pre:ByteArray) (w:World) (e:Ending) (w':World):Prop:=∃ g c gk ck,e=.returned (.slice (some ⟨g,0,none⟩) 1 c)∧32≤ck∧GsAt w' (some ⟨g,0,none⟩) [⟨1,some ⟨gk,0,none⟩,ck,fL 32 (Sh.ptI (Sh.keyP (sd10 1))),pre⟩]∧Below w.heap.size w w'
theorem gs_one {w:World} {g:Nat} {B:Nat} {x:GrV} {c:Nat} (h:w.ownsRow B 51 3 (.slice (some ⟨g,0,none⟩) 1 c) 1 x.cs) (hX:BytesL w x.q x.pub):GsAt w (some ⟨g,0,none⟩) [x]:=fun _=>by
 rcases h.2 with ⟨e,_⟩ | ⟨g',cap,cur,e,_,hg,_⟩
 ·cases e
 injection e with e1 e2 e3
 injection e1 with e1
 injection e1 with e1
 subst e1
 refine ⟨g,0,rfl,(Array.getElem?_eq_some_iff.1 hg).1,fun i y hy=>?_⟩
 match i,hy with
 | 0,hy =>
  obtain rfl:x=y:=by simpa using hy
  exact ⟨⟨h.cellAt 0 (by decide),h.cellAt 1 (by decide),h.cellAt 2 (by decide)⟩,hX⟩
 | i+1,hy=>simp at hy
theorem gs_blk {w:World} {g:Nat} {x:GrV} {zs:Array Value} (h:Blk w g 51 (x.cs.toArray++zs)) (hX:BytesL w x.q x.pub):GsAt w (some ⟨g,0,none⟩) [x]:=fun _=>⟨g,0,rfl,h.lt,fun i y hy=>by
 match i,hy with
 | 0,hy =>
  obtain rfl:x=y:=by simpa using hy
  exact ⟨⟨(h.cell 0).trans (by simp only [GrV.cs];rw [Array.getElem?_append_left (by simp)];rfl),(h.cell 1).trans (by simp only [GrV.cs];rw [Array.getElem?_append_left (by simp)];rfl),(h.cell 2).trans (by simp only [GrV.cs];rw [Array.getElem?_append_left (by simp)];rfl)⟩,hX⟩
 | i+1,hy=>simp at hy⟩
set_option maxRecDepth 20000 in
set_option maxHeartbeats 4000000 in
theorem grants10_c (gl:Nat) (pre:ByteArray) (w:World) (kl:w.cell? ⟨gl,0,none⟩=some (.string pre)) (ll:gl<w.heap.size) (hS:ShP w) (hCv:CvP w):Calls Tryz.prog 110 #[.slice (some ⟨gl,0,none⟩) 1 1] w (PostG1 pre w):=by
 have hB:=hS.lt
 have hse:=Lib.hid (fun w1=>show Calls Tryz.prog 207 #[.int .u8 1] w1 (PostBs 32 (sd10 1) w1) from seed10_c 1 w1)
 have hPub:=Lib.hid (fun g c w1 (k:RowB w1 g 32 c (sd10 1)) (hb:Below w.heap.size w w1)=>show Calls Tryz.prog 37 #[.slice (some ⟨g,0,none⟩) 32 c] w1 (PostBs 32 (Sh.ptI (Sh.keyP (sd10 1))) w1) from Public_c (some ⟨g,0,none⟩) c (sd10 1) k.cap (fun j _=>sd10_byt (by decide) j) w1 k.bx (hS.below hb hB) (by have:=hb.size;omega) (hCv.below hb hCv.lt))
 have hbyt:Sc.Byt (Sh.ptI (Sh.keyP (sd10 1))):=key_byt _
 unfold PostG1
 generalize Sh.ptI (Sh.keyP (sd10 1))=K at *
 replace hbyt:=Lib.hid hbyt
 have hSS:=Lib.hid (fun w' (hb:Below w.heap.size w w')=>((hb.cell (p:=⟨gl,0,none⟩) ll).trans kl:w'.cell? ⟨gl,0,none⟩=some (.string pre)))
 have z0:=Below.refl w.heap.size w
 clear hS hCv hB
 go_enter Tryz.func110,Tryz.ntmps110
 go_wp2_with fail
 go_loopw [3,4] (fun v i wr=>(i=.int .i64 0∧v=.slice none 0 0∧wr=w)∨(i=.int .i64 1∧(∃ g c gk ck,v=.slice (some ⟨g,0,none⟩) 1 c∧32≤ck∧GsAt wr (some ⟨g,0,none⟩) [⟨1,some ⟨gk,0,none⟩,ck,fL 32 K,pre⟩]∧Below w.heap.size w wr))) (fun _ i _=>(1-intOf i).toNat)
 case atStart=>exact .inl ⟨rfl,rfl,rfl⟩
 case round =>
  rcases hrel with ⟨rfl,rfl,rfl⟩ | ⟨rfl,g,c,gk,ck,rfl,h1,h2,h3⟩
  ·go_upto_region 5 with fail
   have y0:=hSS.out _ z0
   go_region_with (first | (go_at_call 207;refine calls_at (fun V1 h1=>?_);have m1:Below wr.heap.size wr V1:=(by rw [h1];go_grown);clear h1;(refine (hse.out V1).mono ?_);rintro e w3 ⟨g3,c3,rfl,lg3,k3,hbb⟩;have n1:=m1.trans (hbb.mono m1.size);have y1:=hSS.out _ n1;clear hbb m1) | (go_at_call 37;(with_reducible refine (hPub.out g3 c3 w3 k3 n1).mono ?_);rintro e w4 ⟨g4,c4,rfl,lg4,k4,hbb⟩;have n2:=n1.trans (hbb.mono n1.size);have y2:=hSS.out _ n2;clear hbb))
   all_goals
    refine at_exit (fun W5 hW=>?_)
    have hb6:Below w4.heap.size w4 W5:=by rw [hW];go_grown
    obtain ⟨gG,hgG⟩:∃ g,g=w4.heap.size+1:=⟨_,rfl⟩
    have kG:∃ zs:Array Value,Blk W5 gG 51 ((GrV.cs ⟨1,some ⟨g4,0,none⟩,c4,fL 32 K,pre⟩).toArray++zs):=⟨_,by
     rw [hW,hgG]
     simp only [GrV.cs,fL_len]
     exact blk_at (by simp) (Blk.new _ _ _)⟩
    rw [← hgG]
    obtain ⟨zs,kG⟩:=kG
    have hgs:=gs_blk kG (rowB_l (k4.below hb6))
    have hcap:=k4.cap
    have n4:=Lib.hid (n2.trans (hb6.mono n2.size))
    clear kG k4 hb6 n2 n1 hSS z0 y0 y1 y2 hW hgG
    go_wp2
    exact ⟨.inr ⟨rfl,gG,_,g4,c4,rfl,hcap,hgs,n4.out⟩,by simp [intOf]⟩
  clear hSS z0 hse hPub
  go_wp2
  go_returns
  exact ⟨g,c,gk,ck,rfl,h1,h2,h3⟩
end Go.Proofs.YtnopjabcdloepaaGreatDoor.Rc

namespace Fe
open Go.Proofs.YtnopjabcdloepaaGreatDoor
def goD (e X Y n:Nat):Nat→Nat→Nat→Bool:=Nat.rec (motive:=fun _=>Nat→Nat→Nat→Bool) (fun a b c=>cond (Nat.beq (X*c % P) (a % P)) (Nat.beq (Y*c % P) (b % P)) false)
 (fun k ih a b c=>ad3 a b c a b c fun x y z=>cond (Nat.beq (e / 2 ^ k % 2) 1) (ad3 x y z bX bY 1 ih) (ih x y z)) n
theorem goD_sound (e X Y:Nat) (A:Nat→Bool):∀ n,(∀ k,k<n→A k=Nat.beq (e / 2 ^ k % 2) 1)→∀ a b c s,RA a b c s.1 s.2→goD e X Y n a b c=true→rest3 A n s=(zf X,zf Y)
 | 0,_,a,b,c,s,h,hg=>by
  have hg':(cond (Nat.beq (X*c % P) (a % P)) (Nat.beq (Y*c % P) (b % P)) false)=true:=hg
  cases hx:Nat.beq (X*c % P) (a % P) with
  | false=>rw [hx] at hg';cases hg'
  | true =>
   rw [hx] at hg'
   have h0:=Nat.eq_of_beq_eq_true hx
   have h1:=Nat.eq_of_beq_eq_true (show Nat.beq (Y*c % P) (b % P)=true from hg')
   have hy:=h.hy
   have hxx:=h.hx
   have h2:=congrArg zf h1
   rw [zf_mod,zf_mod,zf_mul] at h2
   have h3:=congrArg zf h0
   rw [zf_mod,zf_mod,zf_mul] at h3
   show s=_
   exact Prod.ext (f_can h.nz (hxx.symm.trans h3.symm)) (f_can h.nz (hy.symm.trans h2.symm))
 | n+1,hA,a,b,c,s,h,hg=>by
  have hg':(ad3 a b c a b c fun x y z=>cond (Nat.beq (e / 2 ^ n % 2) 1) (ad3 x y z bX bY 1 (goD e X Y n)) (goD e X Y n x y z))=true:=hg
  rw [ad3_eq,← hA n (by omega)] at hg'
  have hd:=ra_add h h
  show rest3 A n (stepF (zf bX) (zf bY) s (A n))=_
  cases hb:A n
  ·rw [hb] at hg'
   exact goD_sound e X Y A n (fun k hk=>hA k (by omega)) _ _ _ _ hd hg'
  rw [hb] at hg'
  change ad3 _ _ _ bX bY 1 (goD e X Y n)=true at hg'
  rw [ad3_eq] at hg'
  exact goD_sound e X Y A n (fun k hk=>hA k (by omega)) _ _ _ _ (ra_add hd ra_b) hg'
theorem evQ {e X Y:Nat} (he:e<2 ^ 256) (h:goD e X Y 256 0 1 1=true):nP e Bp=(zf X,zf Y):=by
 have h:=goD_sound e X Y (fun k=>Nat.beq (e / 2 ^ k % 2) 1) 256 (fun _ _=>rfl) 0 1 1 O2 ra_zero h
 rw [rest3_val _ _ _ o2_on,nP_zero,z_gad,bv_of,Nat.mod_eq_of_lt he] at h
 exact h
end Fe
namespace Sh
open Go Go.Proofs.YtnopjabcdloepaaGreatDoor Go.Proofs
noncomputable def shaM (v:List Nat) (b:Nat→Nat):List Nat:=goS kN (v.getD 0 0) (v.getD 1 0) (v.getD 2 0) (v.getD 3 0) (v.getD 4 0) (v.getD 5 0) (v.getD 6 0) (v.getD 7 0) (wordN b 0 8) (wordN b 1 8) (wordN b 2 8) (wordN b 3 8) (wordN b 4 8) (wordN b 5 8) (wordN b 6 8) (wordN b 7 8) (wordN b 8 8) (wordN b 9 8) (wordN b 10 8) (wordN b 11 8) (wordN b 12 8) (wordN b 13 8) (wordN b 14 8) (wordN b 15 8)
theorem shaM_ok {V:Nat→Int} {v:List Nat} (hv:∀ j,j<8→V j=((v.getD j 0:Nat):Int)) {b:Nat→Nat} {x0 x1 x2 x3 x4 x5 x6 x7:Nat} (h:shaM v b=[x0,x1,x2,x3,x4,x5,x6,x7]):∀ j,j<8→blkI V (fun j=>(b j:Int)) j=(((v.getD j 0+[x0,x1,x2,x3,x4,x5,x6,x7].getD j 0) % 18446744073709551616:Nat):Int):=by
 have hs:=seqN_ok b
 have hw:∀ i,i<16→seqN b (0+i)=wordN b i 8:=fun i hi=>by rw [Nat.zero_add];exact hs.1 i hi
 obtain ⟨a',b',c',d',e',f',g',h',e1,q⟩:=goS_ok hs (schI (fun j=>(b j:Int)) 80) (fun t ht=>sch_n hs 80 t ht) kN 0 (by decide +kernel) kN_ok V (v.getD 0 0) (v.getD 1 0) (v.getD 2 0) (v.getD 3 0) (v.getD 4 0) (v.getD 5 0) (v.getD 6 0) (v.getD 7 0) (wordN b 0 8) (wordN b 1 8) (wordN b 2 8) (wordN b 3 8) (wordN b 4 8) (wordN b 5 8) (wordN b 6 8) (wordN b 7 8) (wordN b 8 8) (wordN b 9 8) (wordN b 10 8) (wordN b 11 8) (wordN b 12 8) (wordN b 13 8) (wordN b 14 8) (wordN b 15 8) ⟨hv 0 (by decide),hv 1 (by decide),hv 2 (by decide),hv 3 (by decide),hv 4 (by decide),hv 5 (by decide),hv 6 (by decide),hv 7 (by decide)⟩ (hw 0 (by decide)) (hw 1 (by decide)) (hw 2 (by decide)) (hw 3 (by decide)) (hw 4 (by decide)) (hw 5 (by decide)) (hw 6 (by decide)) (hw 7 (by decide)) (hw 8 (by decide)) (hw 9 (by decide)) (hw 10 (by decide)) (hw 11 (by decide)) (hw 12 (by decide)) (hw 13 (by decide)) (hw 14 (by decide)) (hw 15 (by decide))
 have e2:[a',b',c',d',e',f',g',h']=[x0,x1,x2,x3,x4,x5,x6,x7]:=e1.symm.trans h
 injection e2 with a0 e2;injection e2 with a1 e2;injection e2 with a2 e2;injection e2 with a3 e2;injection e2 with a4 e2;injection e2 with a5 e2;injection e2 with a6 e2;injection e2 with a7 e2
 subst a0 a1 a2 a3 a4 a5 a6 a7
 intro j hj
 unfold blkI
 rw [hv j hj]
 have hr:rndsI V (schI (fun j=>(b j:Int)) 80) 80 j=(([a',b',c',d',e',f',g',h'].getD j 0:Nat):Int):=by
  have:j=0∨j=1∨j=2∨j=3∨j=4∨j=5∨j=6∨j=7:=by omega
  rcases this with rfl | rfl | rfl | rfl | rfl | rfl | rfl | rfl
  ·exact q.h0
  ·exact q.h1
  ·exact q.h2
  ·exact q.h3
  ·exact q.h4
  ·exact q.h5
  ·exact q.h6
  exact q.h7
 rw [hr,← Int.natCast_add,wrap_n]
def joinN (n:Nat) (g:Nat→Nat) (j:Nat):Nat:=if j<n then g j else if j=n then 128 else if j<248 then 0 else 8*n / 2 ^ (56-8*(j-248)) % 256
theorem join_n {n:Nat} {f:Nat→Int} {g:Nat→Nat} (h1:112≤n) (h2:n≤239) (hf:∀ j,j<n→f j=(g j:Int)) (j:Nat):joinI n f j=((joinN n g j:Nat):Int):=by
 have hz:zerI n=239-n:=by unfold zerI;omega
 unfold joinI joinN endI
 rw [hz]
 by_cases h:j<n
 ·rw [if_pos h,if_pos h,hf j h]
 rw [if_neg h,if_neg h]
 by_cases k1:j=n
 ·rw [if_pos (by omega),if_pos k1];rfl
 rw [if_neg (by omega),if_neg k1]
 by_cases k2:j<248
 ·rw [if_pos (by omega),if_pos k2];rfl
 rw [if_neg (by omega),if_neg k2,show j-n-(9+(239-n))=j-248 by omega]
 simp
theorem sum_of2 {n:Nat} {f:Nat→Int} {g:Nat→Nat} {x0 x1 x2 x3 x4 x5 x6 x7 y0 y1 y2 y3 y4 y5 y6 y7:Nat} {v D:List Nat} (h1:112≤n) (h2:n≤239) (hf:∀ j,j<n→f j=(g j:Int)) (ha:shaM ivN (fun j=>joinN n g (128*0+j))=[x0,x1,x2,x3,x4,x5,x6,x7])
  (hv:∀ j:Fin 8,(ivN.getD j.val 0+[x0,x1,x2,x3,x4,x5,x6,x7].getD j.val 0) % 18446744073709551616=v.getD j.val 0) (hb:shaM v (fun j=>joinN n g (128*1+j))=[y0,y1,y2,y3,y4,y5,y6,y7])
  (hD:∀ j:Fin 64,(v.getD (j.val / 8) 0+[y0,y1,y2,y3,y4,y5,y6,y7].getD (j.val / 8) 0) % 18446744073709551616 / 2 ^ (56-8*(j.val % 8)) % 256=D.getD j.val 0):∀ j,j<64→sumI n f j=((D.getD j 0:Nat):Int):=fun j hj=>by
 have hk:(n+(9+zerI n+8)) / 128=2:=by
  have hz:zerI n=239-n:=by unfold zerI;omega
  omega
 have e:sumI n f=outI (blkI (blkI ivI (fun j=>((joinN n g (128*0+j):Nat):Int))) (fun j=>((joinN n g (128*1+j):Nat):Int))):=by
  unfold sumI
  rw [hk]
  show outI (blkI (blkI ivI (fun j=>joinI n f (128*0+j))) (fun j=>joinI n f (128*1+j)))=_
  rw [show (fun j=>joinI n f (128*0+j))=fun j=>((joinN n g (128*0+j):Nat):Int) from funext fun j=>join_n h1 h2 hf _,show (fun j=>joinI n f (128*1+j))=fun j=>((joinN n g (128*1+j):Nat):Int) from funext fun j=>join_n h1 h2 hf _]
 have hi:∀ j,j<8→ivI j=((ivN.getD j 0:Nat):Int):=by decide +kernel
 have s1:=shaM_ok (V:=ivI) hi ha
 have s2:=shaM_ok (fun j hj=>(s1 j hj).trans (by rw [hv ⟨j,hj⟩])) hb
 rw [e,← hD ⟨j,hj⟩]
 unfold outI
 rw [s2 (j / 8) (by omega)]
 simp
theorem pt_list {p:Fe.Pt} {X Y:Nat} {L:List Nat} (h:p=(Fe.zf X,Fe.zf Y)) (hX:X<Fe.P) (hY:Y<Fe.P) (hL:∀ j:Fin 32,ptB Y X j.val=((L.getD j.val 0:Nat):Int)):∀ j,j<32→ptI p j=((L.getD j 0:Nat):Int):=fun j hj=>by
 rw [← hL ⟨j,hj⟩]
 unfold ptI
 rw [h,show (Fe.zf Y).val=Y from Nat.mod_eq_of_lt hY,show (Fe.zf X).val=X from Nat.mod_eq_of_lt hX]
theorem clamp_list {f:Nat→Int} {D L:List Nat} (hD:∀ j,j<64→sumI 32 f j=((D.getD j 0:Nat):Int)) (hL:∀ j:Fin 32,clampI (fun j=>((D.getD j 0:Nat):Int)) j.val=((L.getD j.val 0:Nat):Int)):(Sc.leV (clampI (sumI 32 f)) 32)=Sc.leV (fun j=>((L.getD j 0:Nat):Int)) 32:=by
 refine Sc.leV_congr 32 (fun j hj=>?_)
 rw [← hL ⟨j,hj⟩]
 unfold clampI
 rw [hD 31 (by decide),hD 0 (by decide),hD j (by omega)]
theorem clamp_hi {f:Nat→Int} {D:List Nat} (hD:∀ j,j<64→sumI 32 f j=((D.getD j 0:Nat):Int)) (j:Nat) (hj:j<32):clampI (sumI 32 f) (32+j)=((D.getD (32+j) 0:Nat):Int):=by
 unfold clampI
 rw [if_neg (by omega),if_neg (by omega),hD _ (by omega)]
theorem ver_other {f0 f1 b s:Nat→Int} {l l':Ps} (hb:∀ j,j<32→b j=ptI (keyP f1) j) (hs:∀ j,j<64→s j=sigI f0 l j) (hne:(Sc.leV (Sc.byt (hI f0 l)) 32).toNat*(Sc.leV (clampI (sumI 32 f0)) 32).toNat % Fe.ordN≠hash3 b s l'*(Sc.leV (clampI (sumI 32 f1)) 32).toNat % Fe.ordN):verI b s l'=false:=by
 have e:Sc.leV (fun j=>s (32+j)) 32=sI f0 l:=by rw [Sc.leV_congr 32 (fun j hj=>hs (32+j) (by omega)),sig_leV]
 rw [verI_pt (key_on f1) (rP_on f0 l) hb (fun j hj=>by rw [hs j (by omega),sig_lo f0 l j hj]) l' (by rw [e];exact (sI_bd f0 l).2),e]
 refine decide_eq_false (fun h=>hne ?_)
 rw [sI_nat,Fe.nP_mod,Fe.nP_add Fe.Bp_on,Fe.nP_neg (key_on f1)] at h
 have hk:keyP f1=Fe.nP (Sc.leV (clampI (sumI 32 f1)) 32).toNat Fe.Bp:=rfl
 have hr:Fe.nP (Sc.leV (Sc.byt (rI f0 l)) 32).toNat Fe.Bp=rP f0 l:=rfl
 rw [hk,← Fe.nP_mul Fe.Bp_on,hr,Nat.mul_comm _ (hash3 b s l')] at h
 have hR:=rP_on f0 l
 have h0:Fe.On2 (Fe.nP ((Sc.leV (Sc.byt (hI f0 l)) 32).toNat*(Sc.leV (clampI (sumI 32 f0)) 32).toNat) Fe.Bp):=Fe.nP_on Fe.Bp_on _
 have h1:Fe.On2 (Fe.nP (hash3 b s l'*(Sc.leV (clampI (sumI 32 f1)) 32).toNat) Fe.Bp):=Fe.nP_on Fe.Bp_on _
 refine Fe.nP_lt (Nat.mod_lt _ (by unfold Fe.ordN;decide)) (Nat.mod_lt _ (by unfold Fe.ordN;decide)) ?_
 rw [Fe.nP_mod,Fe.nP_mod]
 generalize Fe.nP ((Sc.leV (Sc.byt (hI f0 l)) 32).toNat*(Sc.leV (clampI (sumI 32 f0)) 32).toNat) Fe.Bp=X0 at *
 generalize Fe.nP (hash3 b s l'*(Sc.leV (clampI (sumI 32 f1)) 32).toNat) Fe.Bp=X1 at *
 generalize rP f0 l=R at *
 have h2:Fe.gad (Fe.gad (Fe.neg2 X1) X0) R=Fe.gad Fe.O2 R:=by
  rw [Fe.gad_assoc (Fe.neg2_on h1) h0 hR,h,Fe.z_gad]
 have h3:=Fe.gad_cancel (Fe.gad_on (Fe.neg2_on h1) h0) Fe.o2_on hR h2
 have h4:=congrArg (Fe.gad X1) h3
 rwa [← Fe.gad_assoc h1 (Fe.neg2_on h1) h0,Fe.gad_neg h1,Fe.z_gad,Fe.gad_z] at h4
end Sh

namespace Sh
open Go Go.Proofs.YtnopjabcdloepaaGreatDoor Go.Proofs
def join1 (n:Nat) (g:Nat→Nat) (j:Nat):Nat:=if j<n then g j else if j=n then 128 else if j<120 then 0 else 8*n / 2 ^ (56-8*(j-120)) % 256
theorem join_1 {n:Nat} {f:Nat→Int} {g:Nat→Nat} (h2:n≤111) (hf:∀ j,j<n→f j=(g j:Int)) (j:Nat):joinI n f j=((join1 n g j:Nat):Int):=by
 have hz:zerI n=111-n:=by unfold zerI;omega
 unfold joinI join1 endI
 rw [hz]
 by_cases h:j<n
 ·rw [if_pos h,if_pos h,hf j h]
 rw [if_neg h,if_neg h]
 by_cases k1:j=n
 ·rw [if_pos (by omega),if_pos k1];rfl
 rw [if_neg (by omega),if_neg k1]
 by_cases k2:j<120
 ·rw [if_pos (by omega),if_pos k2];rfl
 rw [if_neg (by omega),if_neg k2,show j-n-(9+(111-n))=j-120 by omega]
 simp
theorem sum_of1 {n:Nat} {f:Nat→Int} {g:Nat→Nat} {x0 x1 x2 x3 x4 x5 x6 x7:Nat} {D:List Nat} (h2:n≤111) (hf:∀ j,j<n→f j=(g j:Int)) (ha:shaN (join1 n g)=[x0,x1,x2,x3,x4,x5,x6,x7])
  (hD:∀ j:Fin 64,(ivN.getD (j.val / 8) 0+[x0,x1,x2,x3,x4,x5,x6,x7].getD (j.val / 8) 0) % 18446744073709551616 / 2 ^ (56-8*(j.val % 8)) % 256=D.getD j.val 0):∀ j,j<64→sumI n f j=((D.getD j 0:Nat):Int):=fun j hj=>by
 have hk:(n+(9+zerI n+8)) / 128=1:=by
  have hz:zerI n=111-n:=by unfold zerI;omega
  omega
 have e:sumI n f=outI (blkI ivI (fun j=>((join1 n g j:Nat):Int))):=by
  unfold sumI
  rw [hk]
  show outI (blkI ivI (fun j=>joinI n f (128*0+j)))=_
  rw [show (fun j=>joinI n f (128*0+j))=fun j=>((join1 n g j:Nat):Int) from funext fun j=>by rw [Nat.mul_zero,Nat.zero_add];exact join_1 h2 hf _]
 rw [e,← hD ⟨j,hj⟩]
 unfold outI
 rw [shaN_ok ha (j / 8) (by omega)]
 simp
theorem ver_bent {f b s:Nat→Int} {l l':Ps} {R:Fe.Pt} {e:Nat} (hR:Fe.On2 R) (hb:∀ j,j<32→b j=ptI (keyP f) j) (hs:∀ j,j<32→s j=ptI R j) (h1:∀ j,j<32→s (32+j)=sigI f l (32+j))
  (he:(e+hash3 b s l'*(Sc.leV (clampI (sumI 32 f)) 32).toNat) % Fe.ordN=(sI f l).toNat) (hne:Fe.nP e Fe.Bp≠R):verI b s l'=false:=by
 have e1:Sc.leV (fun j=>s (32+j)) 32=sI f l:=by rw [Sc.leV_congr 32 h1,sig_leV]
 rw [verI_pt (key_on f) hR hb hs l' (by rw [e1];exact (sI_bd f l).2),e1]
 refine decide_eq_false (fun h=>hne ?_)
 rw [← he,Fe.nP_mod,Fe.nP_add Fe.Bp_on,Fe.nP_neg (key_on f)] at h
 have hk:keyP f=Fe.nP (Sc.leV (clampI (sumI 32 f)) 32).toNat Fe.Bp:=rfl
 rw [hk,← Fe.nP_mul Fe.Bp_on,Nat.mul_comm _ (hash3 b s l')] at h
 have hE:Fe.On2 (Fe.nP e Fe.Bp):=Fe.nP_on Fe.Bp_on _
 have hX:Fe.On2 (Fe.nP (hash3 b s l'*(Sc.leV (clampI (sumI 32 f)) 32).toNat) Fe.Bp):=Fe.nP_on Fe.Bp_on _
 generalize Fe.nP (hash3 b s l'*(Sc.leV (clampI (sumI 32 f)) 32).toNat) Fe.Bp=X at *
 generalize Fe.nP e Fe.Bp=E at *
 rw [Fe.gad_comm E X,← Fe.gad_assoc (Fe.neg2_on hX) hX hE,Fe.gad_comm (Fe.neg2 X) X,Fe.gad_neg hX,Fe.z_gad] at h
 exact h
theorem verI_congr2 {b b' s s':Nat→Int} (l:Ps) (hb:∀ j,j<32→b j=b' j) (hs:∀ j,j<64→s j=s' j):verI b s l=verI b' s' l:=by
 have e1:Sc.leV (fun j=>s (32+j)) 32=Sc.leV (fun j=>s' (32+j)) 32:=Sc.leV_congr 32 (fun j hj=>hs _ (by omega))
 have e2:cut b=cut b':=funext fun j=>by unfold cut;split;exact hb j (by assumption);rfl
 have e3:cut s=cut s':=funext fun j=>by unfold cut;split;exact hs j (by omega);rfl
 unfold verI
 rw [e1,e2,e3,hash3_congr (l:=l) (l':=l) hb (fun j hj=>hs j (by omega)) rfl (fun _ _=>rfl)]
theorem cat_list {n:Nat} {a:Nat→Int} {l:Ps} {A B:List Nat} (ha:∀ j,j<n→a j=((A.getD j 0:Nat):Int)) (hA:A.length=n) (hl:∀ j,j<lenI l→catI l j=((B.getD j 0:Nat):Int)) (j:Nat) (hj:j<n+lenI l):catI ((n,a)::l) j=(((A++B).getD j 0:Nat):Int):=by
 show (if j<n then a j else catI l (j-n))=_
 rw [List.getD_eq_getElem?_getD]
 split
 ·rename_i h
  rw [ha j h,List.getD_eq_getElem?_getD,List.getElem?_append_left (by omega)]
 rename_i h
 rw [hl _ (by omega),List.getD_eq_getElem?_getD,List.getElem?_append_right (by omega),hA]
theorem cat_nil (B:List Nat) (j:Nat) (hj:j<lenI []):catI [] j=((B.getD j 0:Nat):Int):=absurd hj (Nat.not_lt_zero _)
end Sh

namespace Sh
open Go Go.Proofs.YtnopjabcdloepaaGreatDoor Go.Proofs
namespace G10
def oneF (j:Nat):Int:=if j=0 then 1 else 0
def kx:ByteArray:=⟨#[97,47,120]⟩
def txL:List Nat:=[1,0,0,0,0,0,0,0,3,97,47,120,0,0,0,0,0,0,0,1,0,0,0,0,0,0,0,1,0,0,0,0,0,0,0,0,0,0,0,0,0,0,0,0,0]
def m1:Ps:=Rc.tP kx 1 1 0 [] false []
theorem tx_len:(Rc.txtL kx 1 1 0 [] false []).length=45:=by decide +kernel
theorem m1_len:lenI m1=45:=by
 show (Rc.txtL kx 1 1 0 [] false []).length+0=_
 rw [tx_len]
theorem tx_l:∀ j,j<45→Rc.gB (Rc.txtL kx 1 1 0 [] false []) j=((txL.getD j 0:Nat):Int):=fun j hj=>(show ∀ j:Fin 45,Rc.gB (Rc.txtL kx 1 1 0 [] false []) j.val=((txL.getD j.val 0:Nat):Int) by decide +kernel) ⟨j,hj⟩
theorem m1_l (j:Nat) (hj:j<lenI m1):catI m1 j=(((txL++[]).getD j 0:Nat):Int):=cat_list (l:=[]) (fun j hj=>tx_l j (by rw [← tx_len];exact hj)) (by rw [tx_len];decide +kernel) (cat_nil []) j hj
def oD:List Nat:=[206,12,38,94,204,130,221,140,238,110,86,206,68,228,93,175,215,160,197,117,13,249,20,178,83,161,251,122,138,246,109,219,153,118,54,7,240,168,93,11,212,54,105,25,74,58,64,87,122,82,138,243,149,244,241,126,6,241,222,252,198,222,178,165]
theorem odig:∀ j,j<64→sumI 32 oneF j=((oD.getD j 0:Nat):Int):=sum_of (g:=fun j=>if j=0 then 1 else 0) (fun j hj=>by unfold oneF;split <;> rfl) (x0:=7206392683177579652) (x1:=3676811176208610932) (x2:=11182950256027638919) (x3:=12561109183373063914) (x4:=5217388867707066938) (x5:=4121075740130923576) (x6:=6543362229712139283) (x7:=12326653324754456876) (by decide +kernel) (by decide +kernel)
def oC:List Nat:=[200,12,38,94,204,130,221,140,238,110,86,206,68,228,93,175,215,160,197,117,13,249,20,178,83,161,251,122,138,246,109,91]
theorem oA:(Sc.leV (clampI (sumI 32 oneF)) 32).toNat=41354757114163650016304086911142683682198188400503391378057401993857692208328:=by
 rw [clamp_list (L:=oC) odig (by decide +kernel)]
 decide +kernel
theorem oKey:keyP oneF=(Fe.zf 26822555233711949854380153315158647482531717314742952720223963642152101436051,Fe.zf 56461774818723834839721450787889437474891852695816614318545467683432985644238):=by
 unfold keyP
 rw [oA]
 exact Fe.evQ (by decide) (by decide +kernel)
def oK:List Nat:=[206,204,21,7,220,29,221,114,149,149,28,41,8,136,240,149,173,185,4,77,27,115,214,150,230,223,6,93,104,59,212,252]
theorem oKeyL:∀ j,j<32→ptI (keyP oneF) j=((oK.getD j 0:Nat):Int):=pt_list oKey (by decide) (by decide) (by decide +kernel)
theorem om_l (j:Nat) (hj:j<lenI ((32,ptI (keyP oneF))::m1)):catI ((32,ptI (keyP oneF))::m1) j=(((oK++(txL++[])).getD j 0:Nat):Int):=cat_list (l:=m1) oKeyL (by decide +kernel) m1_l j hj
def rM:List Nat:=[153,118,54,7,240,168,93,11,212,54,105,25,74,58,64,87,122,82,138,243,149,244,241,126,6,241,222,252,198,222,178,165]
def rD:List Nat:=[2,184,203,253,158,112,110,229,198,176,146,251,243,78,245,231,56,30,150,16,124,146,186,158,99,39,142,70,139,201,235,192,249,167,178,119,180,171,133,250,122,219,38,254,3,125,32,247,234,232,132,213,97,99,190,106,207,115,22,130,185,248,68,211]
theorem rdig:∀ j,j<64→sumI 77 (catI ((32,fun j=>clampI (sumI 32 oneF) (32+j))::m1)) j=((rD.getD j 0:Nat):Int):=sum_of1 (g:=fun j=>(rM++(txL++[])).getD j 0) (by decide) (fun j hj=>cat_list (fun j hj=>(clamp_hi odig j hj).trans (congrArg Nat.cast ((show ∀ j:Fin 32,oD.getD (32+j.val) 0=rM.getD j.val 0 by decide +kernel) ⟨j,hj⟩))) (by decide +kernel) m1_l j (by rw [m1_len];exact hj)) (x0:=11001983370689488349) (x1:=813150930051813036) (x2:=18135893021751624307) (x3:=13679570670729344207) (x4:=12148846988678726441) (x5:=16129007036665869528) (x6:=14656027281665949951) (x7:=8327799379074884442) (by decide +kernel) (by decide +kernel)
theorem rVal:(Sc.leV (Sc.byt (rI oneF m1)) 32).toNat=6804219157760950938450107026141572218834515801315342491654770058211563587182:=by
 unfold rI
 have e:Sh.numI ((32,fun j=>clampI (sumI 32 oneF) (32+j))::m1)=6804219157760950938450107026141572218834515801315342491654770058211563587182:=by
  show Sc.leV (sumI (32+(lenI m1)) (catI ((32,fun j=>clampI (sumI 32 oneF) (32+j))::m1))) 64 % LI=_
  rw [m1_len]
  show Sc.leV (sumI 77 (catI ((32,fun j=>clampI (sumI 32 oneF) (32+j))::m1))) 64 % LI=_
  rw [Sc.leV_congr 64 rdig]
  unfold LI
  decide +kernel
 rw [e,leV_bytL (by decide) (by unfold LI;decide)]
 rfl
theorem rPt:rP oneF m1=(Fe.zf 53115293046890305900893750314356144768739205817778508237902762260784404352039,Fe.zf 52692356467597891925384762931887406350031654467506921026589211917134804607399):=by
 unfold rP
 rw [rVal]
 exact Fe.evQ (e:=6804219157760950938450107026141572218834515801315342491654770058211563587182) (by decide) (by decide +kernel)
def rK:List Nat:=[167,225,44,44,13,178,1,93,220,16,142,192,189,221,247,105,63,117,0,204,223,138,55,80,70,222,204,9,31,209,126,244]
theorem rPtL:∀ j,j<32→ptI (rP oneF m1) j=((rK.getD j 0:Nat):Int):=pt_list rPt (by decide) (by decide) (by decide +kernel)
def hD:List Nat:=[211,27,16,220,135,16,25,82,143,174,87,141,165,4,136,0,199,120,178,130,116,44,129,65,195,148,240,124,216,245,197,180,155,199,172,135,211,69,95,118,176,159,84,65,225,151,197,225,177,195,80,184,143,15,150,156,169,216,222,44,31,138,52,198]
theorem hdig:∀ j,j<64→sumI 109 (catI ((32,ptI (rP oneF m1))::(32,ptI (keyP oneF))::m1)) j=((hD.getD j 0:Nat):Int):=sum_of1 (g:=fun j=>(rK++(oK++(txL++[]))).getD j 0) (by decide) (fun j hj=>cat_list rPtL (by decide +kernel) om_l j (by show j<32+(32+lenI m1);rw [m1_len];exact hj)) (x0:=7570879128762798154) (x1:=15296099036775964869) (x2:=10018748919180658966) (x3:=2181144382484811459) (x4:=5384433820531350693) (x5:=1556534311914133954) (x6:=10538272548973304113) (x7:=5618259308648862541) (by decide +kernel) (by decide +kernel)
theorem hVal:(Sc.leV (Sc.byt (hI oneF m1)) 32).toNat=1844071461402483382906482791584632395828012516737564724705635551024574663645:=by
 unfold hI
 have e:Sh.numI ((32,ptI (rP oneF m1))::(32,ptI (keyP oneF))::m1)=1844071461402483382906482791584632395828012516737564724705635551024574663645:=by
  show Sc.leV (sumI (32+(32+lenI m1)) (catI ((32,ptI (rP oneF m1))::(32,ptI (keyP oneF))::m1))) 64 % LI=_
  rw [m1_len]
  show Sc.leV (sumI 109 (catI ((32,ptI (rP oneF m1))::(32,ptI (keyP oneF))::m1))) 64 % LI=_
  rw [Sc.leV_congr 64 hdig]
  unfold LI
  decide +kernel
 rw [e,leV_bytL (by decide) (by unfold LI;decide)]
 rfl
theorem sVal:(sI oneF m1).toNat=98250802568693402775640800002260802825287286027997071845907100504723730778:=by
 rw [sI_nat,hVal,oA,rVal]
 decide +kernel
def bK:List Nat:=[166,225,44,44,13,178,1,93,220,16,142,192,189,221,247,105,63,117,0,204,223,138,55,80,70,222,204,9,31,209,126,244]
def bP:Fe.Pt:=(Fe.zf 11643400874979923031168493081681075200473600565537058820022875950337075837041,Fe.zf 52692356467597891925384762931887406350031654467506921026589211917134804607398)
theorem bP_on:Fe.On2 bP:=by
 unfold Fe.On2 Fe.Cv bP
 decide +kernel
theorem bPtL:∀ j,j<32→ptI bP j=((bK.getD j 0:Nat):Int):=pt_list (p:=bP) rfl (by decide) (by decide) (by decide +kernel)
def bS (j:Nat):Int:=if j=0 then bits .xor .u8 (sigI oneF m1 0) 1 else sigI oneF m1 j
theorem bS_lo:∀ j,j<32→bS j=ptI bP j:=fun j hj=>by
 rw [bPtL j hj]
 unfold bS
 split
 ·rename_i h
  subst h
  rw [sig_lo oneF m1 0 (by decide),rPtL 0 (by decide)]
  decide +kernel
 rename_i h
 rw [sig_lo oneF m1 j hj,rPtL j hj]
 exact congrArg Nat.cast ((show ∀ j:Fin 32,¬ j.val=0→rK.getD j.val 0=bK.getD j.val 0 by decide +kernel) ⟨j,hj⟩ h)
theorem bS_hi:∀ j,j<32→bS (32+j)=sigI oneF m1 (32+j):=fun j _=>if_neg (by omega)
def kD:List Nat:=[22,136,25,152,29,37,46,72,107,135,254,196,40,159,37,142,208,202,134,17,148,10,190,96,159,127,48,128,204,98,47,147,182,86,64,202,247,158,75,140,55,200,195,225,143,239,2,66,231,87,143,209,15,165,108,165,40,28,42,202,112,164,245,178]
theorem kdig:∀ j,j<64→sumI 109 (catI ((32,bS)::(32,ptI (keyP oneF))::m1)) j=((kD.getD j 0:Nat):Int):=sum_of1 (g:=fun j=>(bK++(oK++(txL++[]))).getD j 0) (by decide) (fun j hj=>cat_list (fun j hj=>(bS_lo j hj).trans (bPtL j hj)) (by decide +kernel) om_l j (by show j<32+(32+lenI m1);rw [m1_len];exact hj)) (x0:=12429428303535301952) (x1:=12691231979896864339) (x2:=10690299350304015925) (x3:=18027693007054370978) (x4:=7298063728303917243) (x5:=11295972712694978083) (x6:=14399052704005730106) (x7:=14716459223716647993) (by decide +kernel) (by decide +kernel)
theorem kVal:hash3 (ptI (keyP oneF)) bS m1=101583627364593468484254351088553664203969269399844735040971462656958029272:=by
 unfold hash3
 have e:Sh.numI ((32,bS)::(32,ptI (keyP oneF))::m1)=101583627364593468484254351088553664203969269399844735040971462656958029272:=by
  show Sc.leV (sumI (32+(32+lenI m1)) (catI ((32,bS)::(32,ptI (keyP oneF))::m1))) 64 % LI=_
  rw [m1_len]
  show Sc.leV (sumI 109 (catI ((32,bS)::(32,ptI (keyP oneF))::m1))) 64 % LI=_
  rw [Sc.leV_congr 64 kdig]
  unfold LI
  decide +kernel
 rw [e,leV_bytL (by decide) (by unfold LI;decide)]
 rfl
theorem ePt:Fe.nP 1776246755111867669783130059415825778536812854444843661722877675123784926618 Fe.Bp=(Fe.zf 31265822680063107650422294121217988588707479565805885389835256979637232529235,Fe.zf 2522428459596679708130492101259260287528375251305604535110500532070176055882):=Fe.evQ (by decide) (by decide +kernel)
theorem bent_no:verI (ptI (keyP oneF)) bS m1=false:=ver_bent (f:=oneF) (l:=m1) (R:=bP) (e:=1776246755111867669783130059415825778536812854444843661722877675123784926618) bP_on (fun _ _=>rfl) bS_lo bS_hi (by rw [kVal,oA,sVal];decide +kernel) (by rw [ePt];unfold bP;decide +kernel)
end G10
end Sh

namespace Go.Proofs.YtnopjabcdloepaaGreatDoor.Rc
open Go Go.RowKit
theorem firstR_one (L:List GrV) (r:RecD):firstR L [r]=lkR L r:=by
 unfold firstR firstR
 split
 ·rename_i h;exact h.symm
 rfl
theorem lkI_all (c:Int):lkI true true true c=c:=rfl
def pa10:ByteArray:=⟨#[97,47]⟩
def kb10:ByteArray:=⟨#[98]⟩
def G10 (gk ck:Nat):GrV:=⟨1,some ⟨gk,0,none⟩,ck,fL 32 (Sh.ptI (Sh.keyP (sd10 1))),pa10⟩
def be10:RecD:=⟨Sh.G10.kx,1,1,0,[],false,[],fL 64 Sh.G10.bS⟩
theorem g10_right (gk ck:Nat):rightG 0 [G10 gk ck]=true:=(rightG_yes (x:=G10 gk ck) (L:=[]) ⟨(show ¬ (1:Int)≤0 by decide),(show ¬ 8<(1:Int) by decide),fL_len _ _,(show ¬ 64<pa10.size by decide)⟩).trans rfl
theorem shx:shB Sh.G10.kx.size 1 1 0 [] false 0=true:=by decide +kernel
theorem shx2:shB Sh.G10.kx.size 2 1 0 [] false 0=true:=by decide +kernel
theorem shb:shB kb10.size 1 1 0 [] false 0=true:=by decide +kernel
theorem may_1 (gk ck:Nat):mayR [G10 gk ck] [re10 Sh.G10.kx 1]=0:=by
 unfold mayR
 rw [if_pos (g10_right gk ck),firstR_one]
 unfold lkR
 have hf:fG [G10 gk ck] (re10 Sh.G10.kx 1).cl=some (G10 gk ck):=rfl
 have hr:rightR (re10 Sh.G10.kx 1).k.size (re10 Sh.G10.kx 1).cl (re10 Sh.G10.kx 1).sq (re10 Sh.G10.kx 1).n (re10 Sh.G10.kx 1).ds (re10 Sh.G10.kx 1).gone (re10 Sh.G10.kx 1).vs.length (re10 Sh.G10.kx 1).ss.length=true:=by
  unfold rightR
  rw [show (re10 Sh.G10.kx 1).ss.length=64 from fL_len _ _,show shB (re10 Sh.G10.kx 1).k.size (re10 Sh.G10.kx 1).cl (re10 Sh.G10.kx 1).sq (re10 Sh.G10.kx 1).n (re10 Sh.G10.kx 1).ds (re10 Sh.G10.kx 1).gone (re10 Sh.G10.kx 1).vs.length=true from shx]
  rfl
 rw [hf,hr,show hpB (re10 Sh.G10.kx 1).k ((some (G10 gk ck)).getD gr0).pre=true from (show hpB Sh.G10.kx pa10=true by decide +kernel)]
 refine (lkI_all _).trans ?_
 change ckR (gB (fL 32 (Sh.ptI (Sh.keyP (sd10 1))))) (re10 Sh.G10.kx 1)=0
 unfold ckR
 rw [hr,if_pos rfl,if_pos]
 exact Sh.ver_sig (sd10 1) (fun j hj=>fL_get 32 _ j hj) (fun j hj=>fL_get 64 _ j hj) rfl (fun _ _=>rfl)
theorem may_2 (gk ck:Nat):mayR [G10 gk ck] [re10 kb10 1]=21:=by
 unfold mayR
 rw [if_pos (g10_right gk ck),firstR_one]
 unfold lkR
 have hf:fG [G10 gk ck] (re10 kb10 1).cl=some (G10 gk ck):=rfl
 have hr:rightR (re10 kb10 1).k.size (re10 kb10 1).cl (re10 kb10 1).sq (re10 kb10 1).n (re10 kb10 1).ds (re10 kb10 1).gone (re10 kb10 1).vs.length (re10 kb10 1).ss.length=true:=by
  unfold rightR
  rw [show (re10 kb10 1).ss.length=64 from fL_len _ _,show shB (re10 kb10 1).k.size (re10 kb10 1).cl (re10 kb10 1).sq (re10 kb10 1).n (re10 kb10 1).ds (re10 kb10 1).gone (re10 kb10 1).vs.length=true from shb]
  rfl
 rw [hf,hr,show hpB (re10 kb10 1).k ((some (G10 gk ck)).getD gr0).pre=false from (show hpB kb10 pa10=false by decide +kernel)]
 rfl
theorem may_3 (gk ck:Nat):mayR [G10 gk ck] [re10 Sh.G10.kx 2]=21:=by
 unfold mayR
 rw [if_pos (g10_right gk ck),firstR_one]
 unfold lkR
 have hf:fG [G10 gk ck] (re10 Sh.G10.kx 2).cl=none:=rfl
 have hr:rightR (re10 Sh.G10.kx 2).k.size (re10 Sh.G10.kx 2).cl (re10 Sh.G10.kx 2).sq (re10 Sh.G10.kx 2).n (re10 Sh.G10.kx 2).ds (re10 Sh.G10.kx 2).gone (re10 Sh.G10.kx 2).vs.length (re10 Sh.G10.kx 2).ss.length=true:=by
  unfold rightR
  rw [show (re10 Sh.G10.kx 2).ss.length=64 from fL_len _ _,show shB (re10 Sh.G10.kx 2).k.size (re10 Sh.G10.kx 2).cl (re10 Sh.G10.kx 2).sq (re10 Sh.G10.kx 2).n (re10 Sh.G10.kx 2).ds (re10 Sh.G10.kx 2).gone (re10 Sh.G10.kx 2).vs.length=true from shx2]
  rfl
 rw [hf,hr]
 rfl
theorem may_4 (gk ck:Nat):mayR [G10 gk ck] [be10]=20:=by
 unfold mayR
 rw [if_pos (g10_right gk ck),firstR_one]
 unfold lkR
 have hf:fG [G10 gk ck] be10.cl=some (G10 gk ck):=rfl
 have hr:rightR be10.k.size be10.cl be10.sq be10.n be10.ds be10.gone be10.vs.length be10.ss.length=true:=by
  unfold rightR
  rw [show be10.ss.length=64 from fL_len _ _,show shB be10.k.size be10.cl be10.sq be10.n be10.ds be10.gone be10.vs.length=true from shx]
  rfl
 rw [hf,hr,show hpB be10.k ((some (G10 gk ck)).getD gr0).pre=true from (show hpB Sh.G10.kx pa10=true by decide +kernel)]
 refine (lkI_all _).trans ?_
 change ckR (gB (fL 32 (Sh.ptI (Sh.keyP (sd10 1))))) be10=20
 unfold ckR
 rw [hr,if_pos rfl,if_neg]
 unfold vfR
 have h1:Sh.verI (gB (fL 32 (Sh.ptI (Sh.keyP (sd10 1))))) (gB be10.ss) (tP be10.k be10.cl be10.sq be10.n be10.ds be10.gone be10.vs)=Sh.verI (Sh.ptI (Sh.keyP Sh.G10.oneF)) Sh.G10.bS (tP be10.k be10.cl be10.sq be10.n be10.ds be10.gone be10.vs):=Sh.verI_congr2 _ (fun j hj=>fL_get 32 _ j hj) (fun j hj=>fL_get 64 _ j hj)
 rw [h1,show Sh.verI (Sh.ptI (Sh.keyP Sh.G10.oneF)) Sh.G10.bS (tP be10.k be10.cl be10.sq be10.n be10.ds be10.gone be10.vs)=false from Sh.G10.bent_no]
 decide
end Go.Proofs.YtnopjabcdloepaaGreatDoor.Rc

namespace Go.Proofs.YtnopjabcdloepaaGreatDoor.Rc
open Go Go.RowKit
theorem recs64 {w:World} {gL:Nat} {k:ByteArray} {cl sq:Int} {q1:Option Addr} {d1:Nat} {q2:Option Addr} {d2 g3 d3:Nat} {F:Nat→Int} (h:Blk w gL 45 #[.string k,.int .i64 cl,.int .i64 sq,.slice q1 0 d1,.bool false,.slice q2 0 d2,.slice (some ⟨g3,0,none⟩) 64 d3]) (kS:RowB w g3 64 d3 F):RecsC [] w (some ⟨gL,0,none⟩) [⟨k,cl,sq,0,[],false,[],fL 64 F⟩]:=fun _=>⟨gL,0,rfl,h.lt,by simp,fun i x hx=>by
 match i,hx with
 | 0,hx =>
  obtain rfl:_=x:=by simpa using hx
  refine ⟨recV ⟨k,cl,sq,0,[],false,[],fL 64 F⟩ q1 d1 q2 d2 (some ⟨g3,0,none⟩) d3,⟨q1,d1,q2,d2,some ⟨g3,0,none⟩,d3,rfl,⟨rfl,fun h=>absurd h (Nat.lt_irrefl 0)⟩,(fun h=>absurd h (Nat.lt_irrefl 0)),(fun h0=>?_),Nat.zero_le _,?_⟩,fun j u hu=>?_⟩
  ·obtain ⟨g,o,e,hl,hc⟩:=(rowB_l kS) h0
   injection e with e
   injection e with e1 e2
   subst e1 e2
   exact ⟨_,_,rfl,hl,by simp,hc⟩
  ·show (fL 64 F).length≤d3
   rw [fL_len]
   exact kS.cap
  rw [show 0+0*7+j=j by omega,h.cell j]
  unfold recV cellsV at hu
  dsimp only at hu
  rw [fL_len] at hu
  simpa using hu
 | i+1,hx=>simp at hx⟩
theorem ok64 {k:ByteArray} {cl sq:Int} {F:Nat→Int} (h:Sc.Byt F):(⟨k,cl,sq,0,[],false,[],fL 64 F⟩:RecD).ok:=⟨Nat.zero_le _,Nat.zero_le _,by show (fL 64 F).length≤100000;rw [fL_len];decide,(fun x hx=>by cases hx),fL_br h⟩
def PostC64 (k:ByteArray) (cl sq:Int) (F:Nat→Int) (w:World) (e:Ending) (w':World):Prop:=∃ t1 e1 t2 e2 g4 d4,e=.returned (.agg #[.string k,.int .i64 cl,.int .i64 sq,.slice t1 0 e1,.bool false,.slice t2 0 e2,.slice (some ⟨g4,0,none⟩) 64 d4])∧w.heap.size≤g4∧RowB w' g4 64 d4 F∧Below w.heap.size w w'
theorem copy64 (k:ByteArray) (cl sq:Int) (q1:Option Addr) (d1:Nat) (q2:Option Addr) (d2 g3 d3:Nat) (F:Nat→Int) (w:World) (kS:RowB w g3 64 d3 F):Calls Tryz.prog 65 #[.agg #[.string k,.int .i64 cl,.int .i64 sq,.slice q1 0 d1,.bool false,.slice q2 0 d2,.slice (some ⟨g3,0,none⟩) 64 d3]] w (PostC64 k cl sq F w):=by
 refine (copyRec_o k cl sq q1 0 d1 false q2 0 d2 (some ⟨g3,0,none⟩) 64 d3 [] [] (fL 64 F) (by decide) rfl (by decide) (fL_len _ _).symm (by decide) w ⟨rfl,fun h=>absurd h (Nat.lt_irrefl 0)⟩ (fun h=>absurd h (Nat.lt_irrefl 0)) (rowB_l kS)).mono ?_
 rintro e w' ⟨t1,e1,t2,e2,t3,e3,rfl,o1,o2,o3,hb⟩
 dsimp only at o3 ⊢
 rw [fL_len] at o3 ⊢
 rw [show bL (fL 64 F)=cB 64 F by simp [bL,fL,cB]] at o3
 obtain ⟨g,c,e,lg,kR⟩:=own_rowB o3 (by decide)
 injection e with a1 a2 a3
 subst a1 a3
 exact ⟨t1,e1,t2,e2,g,e3,rfl,lg,kR,hb⟩
theorem bS_byt:Sc.Byt Sh.G10.bS:=fun j=>by
 have h0:Sh.G10.bS 0=((Sh.G10.bK.getD 0 0:Nat):Int):=(Sh.G10.bS_lo 0 (by decide)).trans (Sh.G10.bPtL 0 (by decide))
 by_cases h:j=0
 ·subst h
  rw [h0]
  decide +kernel
 have h1:Sh.G10.bS j=Sh.sigI Sh.G10.oneF Sh.G10.m1 j:=if_neg h
 rw [h1]
 exact sig_byt _ _ j
set_option maxRecDepth 20000 in
set_option maxHeartbeats 8000000 in
theorem awake10_c (w:World) (hS:ShP w) (hCv:CvP w):Calls Tryz.prog 33 #[] w (PostV (.bool true) w):=by
 have hB:=hS.lt
 have hgr:=Lib.hid (fun gl w1 (hb:Below w.heap.size w w1) (kl:w1.cell? ⟨gl,0,none⟩=some (.string ⟨#[97,47]⟩)) (ll:gl<w1.heap.size)=>grants10_c gl pa10 w1 kl ll (hS.below hb hB) (hCv.below hb hCv.lt))
 have hsA:=Lib.hid (fun w1 (hb:Below w.heap.size w w1)=>show Calls Tryz.prog 111 #[.string ⟨#[97,47,120]⟩,.int .i64 1] w1 (PostSe ⟨#[97,47,120]⟩ 1 w1) from sealed_c Sh.G10.kx 1 (by decide) shx w1 (hS.below hb hB) (hCv.below hb hCv.lt))
 have hsB:=Lib.hid (fun w1 (hb:Below w.heap.size w w1)=>show Calls Tryz.prog 111 #[.string ⟨#[98]⟩,.int .i64 1] w1 (PostSe ⟨#[98]⟩ 1 w1) from sealed_c kb10 1 (by decide) shb w1 (hS.below hb hB) (hCv.below hb hCv.lt))
 have hsC:=Lib.hid (fun w1 (hb:Below w.heap.size w w1)=>show Calls Tryz.prog 111 #[.string ⟨#[97,47,120]⟩,.int .i64 2] w1 (PostSe ⟨#[97,47,120]⟩ 2 w1) from sealed_c Sh.G10.kx 2 (by decide) shx2 w1 (hS.below hb hB) (hCv.below hb hCv.lt))
 have hM:=Lib.hid (fun gg gk ck c (r:RecD) (hok:r.ok) g w1 (hb:Below w.heap.size w w1) (hc:32≤ck) (hG:GsAt w1 (some ⟨gg,0,none⟩) [G10 gk ck]) (hR:RecsC [] w1 (some ⟨g,0,none⟩) [r]) (E:Int) (hE:mayR [G10 gk ck] [r]=E)=>show Calls Tryz.prog 38 #[.slice (some ⟨gg,0,none⟩) 1 c,.slice (some ⟨g,0,none⟩) 1 1] w1 (PostV (.int .i64 E) w1) from by
  rw [← hE]
  exact May_c (some ⟨gg,0,none⟩) 1 c [G10 gk ck] rfl (by decide) (fun x hx=>by
   obtain rfl:x=G10 gk ck:=by simpa using hx
   exact ⟨fL_br (key_byt _),by show (fL 32 _).length≤ck;rw [fL_len];exact hc⟩) (some ⟨g,0,none⟩) 1 1 [r] rfl (by decide) (fun y hy=>by
   obtain rfl:y=r:=by simpa using hy
   exact hok) w1 hG hR (hS.below hb hB) (hCv.below hb hCv.lt))
 clear hS hCv hB
 go_enter Tryz.func33,Tryz.ntmps33
 go_wp2_with fail
 refine calls_at (fun W hW=>?_)
 have hb0:Below w.heap.size w W:=by rw [hW];go_grown
 obtain ⟨gl,hgl⟩:∃ g,g=w.heap.size:=⟨_,rfl⟩
 have kl:Blk W gl 9 #[.string ⟨#[97,47]⟩]:=by rw [hW,hgl];exact Blk.new _ _ _
 rw [← hgl]
 clear hW hgl
 refine (hgr.out gl W hb0 (kl.cell 0) kl.lt).mono ?_
 rintro e w1 ⟨gg,cg,gk,ck,rfl,hck,hG,hb⟩
 replace hb0:=hb0.trans (hb.mono hb0.size)
 change GsAt w1 (some ⟨gg,0,none⟩) [G10 gk ck] at hG
 clear hb kl hgr
 go_wp2_with fail
 refine (hsA.out w1 hb0).mono ?_
 rintro e w2 ⟨q1,d1,q2,d2,g3,d3,rfl,lg3,kS,hb⟩
 replace hG:=hG.below hb
 replace hb0:=hb0.trans (hb.mono hb0.size)
 clear hb hsA lg3
 go_wp2_with fail
 refine calls_at (fun W hW=>?_)
 have hb:Below w2.heap.size w2 W:=by rw [hW];go_grown
 obtain ⟨gA,hgA⟩:∃ g,g=w2.heap.size:=⟨_,rfl⟩
 have kA:Blk W gA 45 #[.string ⟨#[97,47,120]⟩,.int .i64 1,.int .i64 1,.slice q1 0 d1,.bool false,.slice q2 0 d2,.slice (some ⟨g3,0,none⟩) 64 d3]:=by rw [hW,hgA];exact Blk.new _ _ _
 rw [← hgA]
 replace hG:=hG.below hb
 replace kS:=kS.below hb
 replace hb0:=hb0.trans (hb.mono hb0.size)
 clear hb hW hgA
 refine (copy64 ⟨#[97,47,120]⟩ 1 1 q1 d1 q2 d2 g3 d3 _ W kS).mono ?_
 rintro e w3 ⟨t1,e1,t2,e2,g4,d4,rfl,lg4,kC,hb⟩
 have lo4:w.heap.size≤g4:=Nat.le_trans hb0.size lg4
 have hbW:=hb
 clear hb
 go_upto_region 6 with fail
 refine at_world (fun W6 hW=>?_)
 have hb:Below w3.heap.size w3 W6:=by rw [hW];go_grown
 obtain ⟨gB,hgB⟩:∃ g,g=w3.heap.size:=⟨_,rfl⟩
 have kB:Blk W6 gB 45 #[.string ⟨#[97,47,120]⟩,.int .i64 1,.int .i64 1,.slice t1 0 e1,.bool false,.slice t2 0 e2,.slice (some ⟨g4,0,none⟩) 64 d4]:=by rw [hW,hgB];exact Blk.new _ _ _
 have nB4:gB≠g4:=by have:=kC.lt;omega
 rw [← hgB]
 clear hW hgB
 replace kC:=kC.below hb
 replace hbW:=hbW.trans (hb.mono hbW.size)
 have c6:=(blk7 kB).2.2.2.2.2.2
 have x0:=kC.cell 0 (by decide)
 have fz:=kC.frozen 0
 have l4:=kC.lt
 have lB:=kB.lt
 have hsW:=hbW.size
 obtain ⟨F,hF⟩:∃ F,F=Sh.sigI (sd10 1) (tP ⟨#[97,47,120]⟩ 1 1 0 [] false []):=⟨_,rfl⟩
 rw [← hF] at kC x0
 replace hF:=Lib.hid hF
 have hset:=Lib.hid (kC.set_ 0 (by decide) (bits .xor .u8 (F 0) 1))
 have hgs:=Lib.hid (wgrown_set W6 g4 0 (.int .u8 (bits .xor .u8 (F 0) 1)))
 replace hbW:=Lib.hid hbW
 replace kB:=Lib.hid kB
 replace hG:=Lib.hid hG
 replace kS:=Lib.hid kS
 replace kA:=Lib.hid kA
 replace hb0:=Lib.hid hb0
 clear hb kC
 go_region
 all_goals
  refine at_exit (fun W7 hW=>?_)
  have kD:RowB W7 g4 64 d4 Sh.G10.bS:=by rw [hW];exact hset.out.congr (fun j _=>by rw [hF.out];rfl)
  have hg7:W6.grownBy W7 (some g4):=by rw [hW];exact ⟨hgs.out.os,hgs.out.tape,hgs.out.output,hgs.out.size,hgs.out.block⟩
  have hb7:Below W.heap.size W W7:=hbW.out.grown hg7 hsW (fun k hk=>by have:g4=k:=Option.some.inj hk;omega)
  have kB7:=kB.out.grown hg7 (fun e=>nB4 (Option.some.inj e))
  have hG7:=hG.out.below hb7
  have kS7:=kS.out.below hb7
  have kA7:=kA.out.below hb7
  replace hb0:=hb0.out.trans (hb7.mono hb0.out.size)
  clear hW hg7 hb7 hset hgs hbW kB hG kS kA c6 x0 fz l4 lB hsW hF nB4 lo4 lg4
  obtain ⟨y0,y1,y2,y3,y4,y5,y6⟩:=blk7 kA7
  have lA:=kA7.lt
  go_wp2_with fail
  refine calls_at (fun W8 hW=>?_)
  have hb:Below W7.heap.size W7 W8:=by rw [hW];go_grown
  have kO:Blk W8 W7.heap.size 45 #[.string ⟨#[97,47,120]⟩,.int .i64 1,.int .i64 1,.slice q1 0 d1,.bool false,.slice q2 0 d2,.slice (some ⟨g3,0,none⟩) 64 d3]:=by rw [hW];exact Blk.new _ _ _
  clear hW y0 y1 y2 y3 y4 y5 y6 lA kA7
  replace hb0:=hb0.trans (hb.mono hb0.size)
  replace hG7:=hG7.below hb
  replace kD:=kD.below hb
  replace kB7:=kB7.below hb
  refine (hM.out gg gk ck cg (re10 Sh.G10.kx 1) (ok64 (sig_byt _ _)) W7.heap.size W8 hb0 hck hG7 (recs64 kO (kS7.below hb)) 0 (may_1 gk ck)).mono ?_
  rintro e w9 ⟨rfl,hb9⟩
  replace hb0:=hb0.trans (hb9.mono hb0.size)
  replace hG7:=hG7.below hb9
  replace kD:=kD.below hb9
  replace kB7:=kB7.below hb9
  clear hb hb9 kO kS7
  go_wp2_with fail
  refine (hsB.out w9 hb0).mono ?_
  rintro e w10 ⟨r1,u1,r2,u2,g5,d5,rfl,-,kS,hb⟩
  replace hb0:=hb0.trans (hb.mono hb0.size)
  replace hG7:=hG7.below hb
  replace kD:=kD.below hb
  replace kB7:=kB7.below hb
  clear hb hsB
  go_wp2_with fail
  refine calls_at (fun W8 hW=>?_)
  have hb:Below w10.heap.size w10 W8:=by rw [hW];go_grown
  have kO:Blk W8 w10.heap.size 45 #[.string ⟨#[98]⟩,.int .i64 1,.int .i64 1,.slice r1 0 u1,.bool false,.slice r2 0 u2,.slice (some ⟨g5,0,none⟩) 64 d5]:=by rw [hW];exact Blk.new _ _ _
  clear hW
  replace hb0:=hb0.trans (hb.mono hb0.size)
  replace hG7:=hG7.below hb
  replace kD:=kD.below hb
  replace kB7:=kB7.below hb
  refine (hM.out gg gk ck cg (re10 kb10 1) (ok64 (sig_byt _ _)) w10.heap.size W8 hb0 hck hG7 (recs64 kO (kS.below hb)) 21 (may_2 gk ck)).mono ?_
  rintro e w11 ⟨rfl,hb9⟩
  replace hb0:=hb0.trans (hb9.mono hb0.size)
  replace hG7:=hG7.below hb9
  replace kD:=kD.below hb9
  replace kB7:=kB7.below hb9
  clear hb hb9 kO kS
  go_wp2_with fail
  refine (hsC.out w11 hb0).mono ?_
  rintro e w12 ⟨r1',u1',r2',u2',g6,d6,rfl,-,kS,hb⟩
  replace hb0:=hb0.trans (hb.mono hb0.size)
  replace hG7:=hG7.below hb
  replace kD:=kD.below hb
  replace kB7:=kB7.below hb
  clear hb hsC
  go_wp2_with fail
  refine calls_at (fun W8 hW=>?_)
  have hb:Below w12.heap.size w12 W8:=by rw [hW];go_grown
  have kO:Blk W8 w12.heap.size 45 #[.string ⟨#[97,47,120]⟩,.int .i64 2,.int .i64 1,.slice r1' 0 u1',.bool false,.slice r2' 0 u2',.slice (some ⟨g6,0,none⟩) 64 d6]:=by rw [hW];exact Blk.new _ _ _
  clear hW
  replace hb0:=hb0.trans (hb.mono hb0.size)
  replace hG7:=hG7.below hb
  replace kD:=kD.below hb
  replace kB7:=kB7.below hb
  refine (hM.out gg gk ck cg (re10 Sh.G10.kx 2) (ok64 (sig_byt _ _)) w12.heap.size W8 hb0 hck hG7 (recs64 kO (kS.below hb)) 21 (may_3 gk ck)).mono ?_
  rintro e w13 ⟨rfl,hb9⟩
  replace hb0:=hb0.trans (hb9.mono hb0.size)
  replace hG7:=hG7.below hb9
  replace kD:=kD.below hb9
  replace kB7:=kB7.below hb9
  clear hb hb9 kO kS
  obtain ⟨y0,y1,y2,y3,y4,y5,y6⟩:=blk7 kB7
  have lA:=kB7.lt
  go_wp2_with fail
  refine calls_at (fun W8 hW=>?_)
  have hb:Below w13.heap.size w13 W8:=by rw [hW];go_grown
  have kO:Blk W8 w13.heap.size 45 #[.string ⟨#[97,47,120]⟩,.int .i64 1,.int .i64 1,.slice t1 0 e1,.bool false,.slice t2 0 e2,.slice (some ⟨g4,0,none⟩) 64 d4]:=by rw [hW];exact Blk.new _ _ _
  clear hW y0 y1 y2 y3 y4 y5 y6 lA kB7
  replace hb0:=hb0.trans (hb.mono hb0.size)
  replace hG7:=hG7.below hb
  refine (hM.out gg gk ck cg be10 (ok64 bS_byt) w13.heap.size W8 hb0 hck hG7 (recs64 kO (kD.below hb)) 20 (may_4 gk ck)).mono ?_
  rintro e w14 ⟨rfl,hb9⟩
  replace hb0:=Lib.hid (hb0.trans (hb9.mono hb0.size))
  clear hb hb9 kO kD hG7 hM
  go_wp2_with fail
  go_returns
  exact ⟨rfl,hb0.out⟩
end Go.Proofs.YtnopjabcdloepaaGreatDoor.Rc
