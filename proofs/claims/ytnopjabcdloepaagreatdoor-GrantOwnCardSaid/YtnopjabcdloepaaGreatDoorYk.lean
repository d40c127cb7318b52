import Derived.Test.YtnopjabcdloepaaGreatDoorYj
import Derived.Deep.RegionHeld3
namespace Sh
open Go
def clampI (D:Nat→Int) (j:Nat):Int:=if j=31 then bits .or .u8 (bits .and .u8 (D 31) 63) 64 else if j=0 then bits .andNot .u8 (D 0) 7 else D j
end Sh
namespace Go.Proofs.YtnopjabcdloepaaGreatDoor
open Go Go.RowKit
def opC (X Y Z T:Fe.E) (g c:Nat):Array Value:=#[.int .u64 X.a0,.int .u64 X.a1,.int .u64 X.a2,.int .u64 X.a3,.int .u64 X.a4,.int .u64 Y.a0,.int .u64 Y.a1,.int .u64 Y.a2,.int .u64 Y.a3,.int .u64 Y.a4,.int .u64 Z.a0,.int .u64 Z.a1,.int .u64 Z.a2,.int .u64 Z.a3,.int .u64 Z.a4,.int .u64 T.a0,.int .u64 T.a1,.int .u64 T.a2,.int .u64 T.a3,.int .u64 T.a4,.slice (some ⟨g,0,none⟩) 32 32,.slice (some ⟨g,32,none⟩) 32 (c-32)]
theorem clamp_r {D:Nat→Int} (hD:Sc.Byt D):Sc.Byt (Sh.clampI D):=fun j=>by
 have h1:∀ a:Fin 256,0≤bits .or .u8 (bits .and .u8 (a.val:Int) 63) 64∧bits .or .u8 (bits .and .u8 (a.val:Int) 63) 64<256:=by decide +kernel
 have h2:∀ a:Fin 256,0≤bits .andNot .u8 (a.val:Int) 7∧bits .andNot .u8 (a.val:Int) 7<256:=by decide +kernel
 unfold Sh.clampI
 split
 ·have:=h1 ⟨(D 31).toNat,by have:=hD 31;omega⟩
  simpa [Int.toNat_of_nonneg (hD 31).1] using this
 split
 ·have:=h2 ⟨(D 0).toNat,by have:=hD 0;omega⟩
  simpa [Int.toNat_of_nonneg (hD 0).1] using this
 exact hD j
def PostOp (f:Nat→Int) (w:World) (e:Ending) (w':World):Prop:=∃ GO X Y Z T g c,e=.returned (.tuple #[.pointer (some ⟨GO,0,none⟩),.bool true])∧w.heap.size≤GO∧Blk w' GO 251 (opC X Y Z T g c)∧PtE X Y Z T (Fe.nP (Sc.leV (Sh.clampI (Sh.sumI 32 f)) 32).toNat Fe.Bp).1 (Fe.nP (Sc.leV (Sh.clampI (Sh.sumI 32 f)) 32).toNat Fe.Bp).2∧RowB w' g 64 c (Sh.clampI (Sh.sumI 32 f))∧64≤c∧Below w.heap.size w w'
set_option maxRecDepth 20000 in
set_option maxHeartbeats 1500000 in
theorem open_c (p:Option Addr) (c:Nat) (f:Nat→Int) (hc:32≤c) (hf:∀ j,j<32→0≤f j∧f j<256) (w:World) (hX:BX [] w p 32 f) (hS:ShP w) (hB:3<w.heap.size) (hCv:CvP w):Calls Tryz.prog 117 #[.slice p 32 c] w (PostOp f w):=by
 have ha:Below w.heap.size w (w.alloc (.cells #[.slice p 32 c] 22)):=(Below.refl _ _).alloc (Nat.le_refl _) _
 have hasz:=ha.size
 have hpv:PV w (.slice p 32 c) 32 f:=⟨p,c,rfl,hc,hX⟩
 have hsh:=sha_l w.heap.size 0 1 [.slice p 32 c] [(32,f)] (w.alloc (.cells #[.slice p 32 c] 22)) (Blk.new _ _ _).lt (fun j u hu=>by rw [Nat.zero_add,(Blk.new w _ _).cell j];simpa using hu) ⟨hpv.below ha,trivial⟩ ⟨hf,trivial⟩ (by show 32+0≤10000000;decide) (by show 1≤1000000;decide) (hS.below ha hB) (by omega)
 have e1:Sh.sumI (Sh.lenI [(32,f)]) (Sh.catI [(32,f)])=Sh.sumI 32 f:=Sh.sumI_congr (fun j hj=>by
  unfold Sh.catI
  exact if_pos hj)
 rw [e1] at hsh
 have hD:=Sh.sumI_byt 32 f
 obtain ⟨D,hDe⟩:∃ D,D=Sh.sumI 32 f:=⟨_,rfl⟩
 rw [← hDe] at hsh hD
 replace hsh:=Lib.hid hsh
 replace ha:=Lib.hid ha
 replace hDe:=Lib.hid hDe
 clear hX hpv e1 hS
 replace hCv:=Lib.hid hCv
 replace hD:=Lib.hid hD
 go_enter Tryz.func117,Tryz.ntmps117
 go_wp2_with fail
 refine hsh.out.mono ?_
 rintro e w1 ⟨g,cd,rfl,hg,hR,hb⟩
 clear hsh
 replace hb:=Lib.hid (ha.out.trans (hb.mono hasz))
 have hc64:64≤cd:=by obtain ⟨_,_,h,_⟩:=id hR;exact h
 have hc1:(64:Int)≤(cd:Int):=by omega
 have u0:=hR.cell 0 (by decide)
 have u31:=hR.cell 31 (by decide)
 have f0:=hR.frozen 0
 have f31:=hR.frozen 31
 replace hR:=Lib.hid hR
 go_wp2_with fail
 refine at_world (fun W2 hW=>?_)
 have hR2:RowB W2 g 64 cd (Sh.clampI D):=by
  rw [hW]
  refine ((hR.out.set_ 0 (by decide) (bits .andNot .u8 (D 0) 7)).set_ 31 (by decide) (bits .or .u8 (bits .and .u8 (D 31) 63) 64)).congr (fun j _=>rfl)
 have hb2:Below w.heap.size w W2:=by
  rw [hW]
  exact (hb.out.setCell (p:=⟨g,0,none⟩) (by show w.heap.size≤g;omega) _).setCell (p:=⟨g,31,none⟩) (by show w.heap.size≤g;omega) _
 clear hW u0 u31 f0 f31 hR hb
 have hcl:Sc.Byt (Sh.clampI D):=clamp_r hD.out
 obtain ⟨A,hA⟩:∃ A,A=Fe.nP (Sc.leV (Sh.clampI D) 32).toNat Fe.Bp:=⟨_,rfl⟩
 have hbase:=Lib.hid (fun w1 (hb:Below W2.heap.size W2 w1)=>base_c w1 ((hCv.out.below hb2 hCv.out.lt).below hb ((hCv.out.below hb2 hCv.out.lt).lt)))
 have hmul:=Lib.hid (fun w1 X Y Z T (hp:PtE X Y Z T Fe.Bp.1 Fe.Bp.2) (hb:Below W2.heap.size W2 w1)=>fmul_c g 0 32 hcl w1 (hR2.below hb).lt (fun j hj=>by rw [Nat.zero_add];exact (hR2.below hb).cell j (by omega)) hp ((hCv.out.below hb2 hCv.out.lt).below hb ((hCv.out.below hb2 hCv.out.lt).lt)))
 rw [← hA] at hmul
 rw [show Fe.zf Fe.bX=Fe.Bp.1 from rfl,show Fe.zf Fe.bY=Fe.Bp.2 from rfl] at hbase
 have hb0:=Below.refl W2.heap.size W2
 replace hcl:=Lib.hid hcl
 replace hA:=Lib.hid hA
 replace hR2:=Lib.hid hR2
 replace hb2:=Lib.hid hb2
 go_region_held3 (fun w'=>w'.cell? ⟨g,0,none⟩=some (.int .u8 (Sh.clampI D 0))) (first | exact (hR2.out.below (hb6.alloc hb6.size _)).cell 0 (by decide) | exact (hR2.out.below hb6).cell 0 (by decide) | exact (hR2.out.below hb4).cell 0 (by decide) | exact (hR2.out.below hb0.drew).cell 0 (by decide) | exact (hR2.out.below hb0).cell 0 (by decide)) (first | (go_at_call 214;refine (hbase.out _ hb0.drew).mono ?_;rintro e w3 ⟨X,Y,Z,T,rfl,hp,hb3⟩;replace hp:=Lib.hid hp;have hb4:=hb0.drew.trans (hb3.mono hb0.size)) | (go_at_call 213;refine (hmul.out _ _ _ _ _ hp.out hb4).mono ?_;rintro e w5 ⟨X2,Y2,Z2,T2,rfl,hp2,hb5⟩;unfold pcs;replace hp2:=Lib.hid hp2;have hb6:=hb4.trans (hb5.mono hb4.size)))
 refine at_exit (fun W7 hW=>?_)
 have hP:=Lib.hid (show PostOp f w (.returned (.tuple #[.pointer (some ⟨w5.heap.size,0,none⟩),.bool true])) W7 from by
  have hsz:=hb2.out.size
  have hsz6:=hb6.size
  refine ⟨w5.heap.size,X2,Y2,Z2,T2,g,cd,rfl,by omega,?_,?_,?_,hc64,?_⟩
  ·rw [hW]
   exact Blk.new _ _ _
  ·rw [← hDe.out,← hA.out]
   exact hp2.out
  ·rw [hW,← hDe.out]
   exact hR2.out.below (hb6.alloc hb6.size _)
  rw [hW]
  exact hb2.out.trans ((hb6.alloc hb6.size _).mono hsz))
 clear hW
 go_wp2_with fail
 go_returns
 exact hP.out
end Go.Proofs.YtnopjabcdloepaaGreatDoor
namespace Sh
open Go Go.Proofs.YtnopjabcdloepaaGreatDoor
def keyP (f:Nat→Int):Fe.Pt:=Fe.nP (Sc.leV (clampI (sumI 32 f)) 32).toNat Fe.Bp
def ptI (p:Fe.Pt) (j:Nat):Int:=ptB p.2.val p.1.val j
end Sh
namespace Go.Proofs.YtnopjabcdloepaaGreatDoor
open Go Go.RowKit
theorem ptS_size:(Tryz.prog.info? 204).map (·.size)=some 20:=by kernel_rfl
theorem ptS_under:∃ fs,Tryz.prog.underlying 204=some (.struct fs):=by
 have h:(Tryz.prog.underlying 204).map (fun d=>match d with | .struct _=>true | _=>false)=some true:=by kernel_rfl
 cases hq:Tryz.prog.underlying 204 with
 | none=>rw [hq] at h;cases h
 | some d =>
  rw [hq] at h
  cases d <;> first | exact ⟨_,rfl⟩ | (simp at h)
section
variable {ops:Array Oper} {rest:List Oper} {o:Oper} {a:Act} {w:World} {Q:Exit→Act→World→Prop}
theorem ldP (hgd:o.guard=none) {x:Operand} (ho:o.op=.load 204 x) {GO:Nat} (hx:a.eval x=.pointer (some ⟨GO,0,none⟩)) {X Y Z T:Fe.E} {g c:Nat} (hg:Blk w GO 251 (opC X Y Z T g c)) (h:wpList Tryz.prog ops Q rest (a.put o.dst (.agg (pcs X Y Z T))) w):wpList Tryz.prog ops Q (o::rest) a w:=by
 obtain ⟨fs,hd⟩:=ptS_under
 have e:opC X Y Z T g c=pcs X Y Z T++#[.slice (some ⟨g,0,none⟩) 32 32,.slice (some ⟨g,32,none⟩) 32 (c-32)]:=rfl
 exact wpList_load_mid hgd _ x ho GO 0 hx (pcs X Y Z T).toList _ (fun j v hv=>by
  have hj:j<(pcs X Y Z T).size:=by have:=(List.getElem?_eq_some_iff.1 hv).1;simpa using this
  rw [Nat.zero_add,hg.cell j,e,Array.getElem?_append_left hj,← Array.getElem?_toList]
  exact hv) hd rfl (by rw [ptS_size];rfl) (by simpa using h)
end
set_option maxRecDepth 20000 in
set_option maxHeartbeats 2000000 in
theorem public_c (GO:Nat) (X Y Z T:Fe.E) (g c:Nat) (p:Fe.Pt) (w:World) (hO:Blk w GO 251 (opC X Y Z T g c)) (hp:PtE X Y Z T p.1 p.2):Calls Tryz.prog 118 #[.pointer (some ⟨GO,0,none⟩)] w (PostBs 32 (Sh.ptI p) w):=by
 have hpt:=Lib.hid (pput_c w hp)
 replace hO:=Lib.hid hO
 clear hp
 go_enter Tryz.func118,Tryz.ntmps118
 go_wp2_with (refine ldP rfl rfl rfl hO.out ?_)
 refine hpt.out.mono ?_
 rintro e w2 ⟨g2,hg2,rfl,hR,hb⟩
 have hP:=Lib.hid (show PostBs 32 (Sh.ptI p) w (.returned (.slice (some ⟨g2,0,none⟩) 32 32)) w2 from ⟨g2,32,rfl,hg2,hR,hb⟩)
 clear hR hb hpt hO
 go_wp2_with fail
 go_returns
 exact hP.out
set_option maxRecDepth 20000 in
set_option maxHeartbeats 2000000 in
theorem Public_c (p:Option Addr) (c:Nat) (f:Nat→Int) (hc:32≤c) (hf:∀ j,j<32→0≤f j∧f j<256) (w:World) (hX:BX [] w p 32 f) (hS:ShP w) (hB:3<w.heap.size) (hCv:CvP w):Calls Tryz.prog 37 #[.slice p 32 c] w (PostBs 32 (Sh.ptI (Sh.keyP f)) w):=by
 have hop:=Lib.hid (open_c p c f hc hf w hX hS hB hCv)
 clear hf hX hS hCv
 go_enter Tryz.func37,Tryz.ntmps37
 go_wp2_with fail
 refine hop.out.mono ?_
 rintro e w2 ⟨GO,X,Y,Z,T,g,cg,rfl,hGO,hO,hp,hR,hcg,hb⟩
 have hpb:=Lib.hid (public_c GO X Y Z T g cg (Sh.keyP f))
 replace hO:=Lib.hid hO
 replace hp:=Lib.hid hp
 replace hb:=Lib.hid hb
 clear hop hR
 go_wp2_with fail
 refine (hpb.out w2 hO.out hp.out).mono ?_
 rintro e w3 ⟨g3,c3,rfl,hg3,hR3,hb3⟩
 have hP:=Lib.hid (show PostBs 32 (Sh.ptI (Sh.keyP f)) w (.returned (.slice (some ⟨g3,0,none⟩) 32 c3)) w3 from ⟨g3,c3,rfl,by have:=hb.out.size;omega,hR3,hb.out.trans (hb3.mono hb.out.size)⟩)
 clear hR3 hb3 hpb hO hp
 go_wp2_with fail
 go_returns
 exact hP.out
end Go.Proofs.YtnopjabcdloepaaGreatDoor
namespace Sh
open Go Go.Proofs.YtnopjabcdloepaaGreatDoor Go.Proofs
def rI (f:Nat→Int) (l:Ps):Int:=Sh.numI ((32,fun j=>clampI (sumI 32 f) (32+j))::l)
def rP (f:Nat→Int) (l:Ps):Fe.Pt:=Fe.nP (Sc.leV (Sc.byt (rI f l)) 32).toNat Fe.Bp
def hI (f:Nat→Int) (l:Ps):Int:=Sh.numI ((32,ptI (rP f l))::(32,ptI (keyP f))::l)
def sI (f:Nat→Int) (l:Ps):Int:=(Sc.leV (Sc.byt (hI f l)) 32*Sc.leV (clampI (sumI 32 f)) 32+Sc.leV (Sc.byt (rI f l)) 32) % LI
def sigI (f:Nat→Int) (l:Ps):Nat→Int:=catI [(32,ptI (rP f l)),(32,Sc.byt (sI f l))]
end Sh
namespace Go.Proofs.YtnopjabcdloepaaGreatDoor
open Go Go.RowKit
theorem RowB.pv {w:World} {g n c:Nat} {f:Nat→Int} (h:RowB w g n c f):PV w (.slice (some ⟨g,0,none⟩) n c) n f:=by
 obtain ⟨cur,k1,k2,k3⟩:=id h
 exact ⟨_,c,rfl,k2,fun _=>⟨g,0,rfl,h.lt,by simp,fun j hj=>by rw [Nat.zero_add];exact h.cell j hj⟩⟩
theorem opC_20 (X Y Z T:Fe.E) (g c:Nat):(opC X Y Z T g c)[20]?=some (.slice (some ⟨g,0,none⟩) 32 32)∧(opC X Y Z T g c)[21]?=some (.slice (some ⟨g,32,none⟩) 32 (c-32)):=⟨rfl,rfl⟩
theorem ptI_r (p:Fe.Pt) (j:Nat) (_:j<32):0≤Sh.ptI p j∧Sh.ptI p j<256:=by
 have h1:∀ y k:Nat,0≤Dg.rb y k∧Dg.rb y k<256:=fun y k=>by unfold Dg.rb;omega
 unfold Sh.ptI ptB
 split
 ·have hy:Dg.rb p.2.val 31<128:=by
   have hlt:=p.2.isLt
   have hP:Fe.P<128*256 ^ 31:=by decide +kernel
   have h2:p.2.val / 256 ^ 31<128:=Nat.div_lt_of_lt_mul (by omega)
   unfold Dg.rb
   omega
  have h0:=(h1 p.2.val 31).1
  split <;> omega
 exact h1 _ _
set_option maxRecDepth 20000 in
set_option maxHeartbeats 1500000 in
theorem Sign_c (p:Option Addr) (c:Nat) (f:Nat→Int) (hc:32≤c) (hf:∀ j,j<32→0≤f j∧f j<256) (v:Value) (cs:List Value) (l:Sh.Ps) (w:World) (hX:BX [] w p 32 f) (hv:Parts w v cs) (hl:PVs w cs l) (hr:Sh.BytI l) (hn:Sh.lenI l≤1000000) (hk:cs.length≤10000) (hS:ShP w) (hB:3<w.heap.size) (hCv:CvP w):Calls Tryz.prog 114 #[.slice p 32 c,v] w (PostBs 64 (Sh.sigI f l) w):=by
 have hop:=Lib.hid (open_c p c f hc hf w hX hS hB hCv)
 replace hv:=Lib.hid hv
 replace hl:=Lib.hid hl
 replace hr:=Lib.hid hr
 replace hS:=Lib.hid hS
 replace hCv:=Lib.hid hCv
 clear hf hX
 have hD:=clamp_r (Sh.sumI_byt 32 f)
 replace hD:=Lib.hid hD
 go_enter Tryz.func114,Tryz.ntmps114
 go_wp2_with fail
 refine hop.out.mono ?_
 rintro e w2 ⟨GO,X,Y,Z,T,g,cg,rfl,hGO,hO,hp,hR,hcg,hb⟩
 clear hop
 have hpre:PV w2 (.slice (some ⟨g,32,none⟩) 32 (cg-32)) 32 (fun j=>Sh.clampI (Sh.sumI 32 f) (32+j)):=⟨_,_,rfl,by omega,fun _=>⟨g,32,rfl,hR.lt,by simp,fun j hj=>hR.cell (32+j) (by omega)⟩⟩
 have hsz:=hb.size
 have hnum:=Lib.hid (number_c _ v _ _ cs l w2 hpre (hv.out.below hb) (hl.out.below hb) ⟨fun j _=>hD.out _,hr.out⟩ (by show 32+Sh.lenI l≤10000000;omega) (by omega) (hS.out.below hb hB) (by omega))
 have u21:=hO.cell 21
 rw [(opC_20 _ _ _ _ _ _).2] at u21
 replace hO:=Lib.hid hO
 replace hp:=Lib.hid hp
 replace hR:=Lib.hid hR
 replace hb:=Lib.hid hb
 clear hpre
 go_wp2_with fail
 refine hnum.out.mono ?_
 rintro e w3 ⟨g3,c3,rfl,hg3,hR3,hb3⟩
 clear hnum u21
 replace hO:=Lib.hid (hO.out.below hb3)
 replace hR:=Lib.hid (hR.out.below hb3)
 replace hb:=Lib.hid (hb.out.trans (hb3.mono hsz))
 have hsz3:=hb.out.size
 replace hR3:=Lib.hid hR3
 clear hb3
 have hbase:=Lib.hid (base_c w3 (hCv.out.below hb.out hCv.out.lt))
 rw [show Fe.zf Fe.bX=Fe.Bp.1 from rfl,show Fe.zf Fe.bY=Fe.Bp.2 from rfl] at hbase
 go_wp2_with fail
 refine hbase.out.mono ?_
 rintro e w4 ⟨X4,Y4,Z4,T4,rfl,hp4,hb4⟩
 clear hbase
 replace hO:=Lib.hid (hO.out.below hb4)
 replace hR:=Lib.hid (hR.out.below hb4)
 replace hR3:=Lib.hid (hR3.out.below hb4)
 replace hb:=Lib.hid (hb.out.trans (hb4.mono hsz3))
 have hsz4:=hb.out.size
 clear hb4
 have hmul:=Lib.hid (fmul_c g3 0 c3 (Sc.byt_r _) w4 hR3.out.lt (fun j hj=>by rw [Nat.zero_add];exact hR3.out.cell j hj) hp4 (hCv.out.below hb.out hCv.out.lt))
 replace hp4:=Lib.hid hp4
 go_wp2_with fail
 refine hmul.out.mono ?_
 rintro e w5 ⟨X5,Y5,Z5,T5,rfl,hp5,hb5⟩
 clear hmul
 replace hO:=Lib.hid (hO.out.below hb5)
 replace hR:=Lib.hid (hR.out.below hb5)
 replace hR3:=Lib.hid (hR3.out.below hb5)
 replace hb:=Lib.hid (hb.out.trans (hb5.mono hsz4))
 have hsz5:=hb.out.size
 clear hb5
 have hput:=Lib.hid (pput_c w5 hp5)
 go_wp2_with fail
 refine hput.out.mono ?_
 rintro e w6 ⟨g6,hg6,rfl,hR6,hb6⟩
 clear hput
 replace hO:=Lib.hid (hO.out.below hb6)
 replace hR:=Lib.hid (hR.out.below hb6)
 replace hR3:=Lib.hid (hR3.out.below hb6)
 replace hb:=Lib.hid (hb.out.trans (hb6.mono hsz5))
 clear hb6
 replace hR6:RowB w6 g6 32 32 (Sh.ptI (Sh.rP f l)):=hR6
 replace hR6:=Lib.hid hR6
 go_wp2_with fail
 have hb0:=Below.refl w6.heap.size w6
 have h3:3<w6.heap.size:=by have:=hb.out.size;omega
 have hv6:=Lib.hid (hv.out.below hb.out)
 have hl6:=Lib.hid (hl.out.below hb.out)
 have hS6:=Lib.hid (hS.out.below hb.out hB)
 have hpub:=Lib.hid (fun w1 (hb:Below w6.heap.size w6 w1)=>public_c GO X Y Z T g cg (Sh.keyP f) w1 (hO.out.below hb) hp.out)
 have hby:Sh.BytI ((32,Sh.ptI (Sh.rP f l))::(32,Sh.ptI (Sh.keyP f))::l):=⟨fun j hj=>ptI_r _ j hj,fun j hj=>ptI_r _ j hj,hr.out⟩
 have hhow:=Lib.hid (fun w1 g7 c7 (hb:Below w6.heap.size w6 w1) (h:RowB w1 g7 32 c7 (Sh.ptI (Sh.keyP f)))=>how_c _ _ v 32 32 _ _ cs l w1 (hR6.out.below hb).pv h.pv (hv6.out.below hb) (hl6.out.below hb) hby (by show 32+(32+Sh.lenI l)≤10000000;omega) (by omega) (hS6.out.below hb h3) (by have:=hb.size;omega))
 have hma:=Lib.hid (fun w1 g9 c9 (hb:Below w6.heap.size w6 w1) (h:RowB w1 g9 32 c9 (Sc.byt (Sh.hI f l)))=>muladd_c g9 0 c9 g 0 32 g3 0 c3 _ _ _ (Sc.byt_r _) hD.out (Sc.byt_r _) w1 h.lt (fun j hj=>by rw [Nat.zero_add];exact h.cell j hj) (hR.out.below hb).lt (fun j hj=>by rw [Nat.zero_add];exact (hR.out.below hb).cell j (by omega)) (hR3.out.below hb).lt (fun j hj=>by rw [Nat.zero_add];exact (hR3.out.below hb).cell j hj))
 have h20:=Lib.hid (fun w1 (hb:Below w6.heap.size w6 w1)=>show w1.cell? ⟨GO,20,none⟩=some (.slice (some ⟨g,0,none⟩) 32 32) from by rw [(hO.out.below hb).cell 20];exact (opC_20 _ _ _ _ _ _).1)
 have hcat:=Lib.hid (fun w1 g11 c11 (hb:Below w6.heap.size w6 w1) (h:RowB w1 g11 32 c11 (Sc.byt (Sh.sI f l)))=>show Calls Tryz.prog 205 #[.slice (some ⟨w1.heap.size,0,none⟩) 2 2] (w1.alloc (.cells #[.slice (some ⟨g6,0,none⟩) 32 32,.slice (some ⟨g11,0,none⟩) 32 c11] 22)) (PostBs 64 (Sh.sigI f l) (w1.alloc (.cells #[.slice (some ⟨g6,0,none⟩) 32 32,.slice (some ⟨g11,0,none⟩) 32 c11] 22))) from concat_c w1.heap.size 0 2 [.slice (some ⟨g6,0,none⟩) 32 32,.slice (some ⟨g11,0,none⟩) 32 c11] [(32,Sh.ptI (Sh.rP f l)),(32,Sc.byt (Sh.sI f l))] (w1.alloc (.cells #[.slice (some ⟨g6,0,none⟩) 32 32,.slice (some ⟨g11,0,none⟩) 32 c11] 22)) (Blk.new _ _ _).lt (fun j u hu=>by rw [Nat.zero_add,(Blk.new w1 _ _).cell j];simpa using hu) ⟨(hR6.out.below (hb.alloc hb.size _)).pv,(h.below ((Below.refl _ _).alloc (Nat.le_refl _) _)).pv,trivial⟩ (by show 0<32+(32+0);decide) (by show 32+(32+0)≤10000000;decide) (by show 2≤1000000;decide))
 have u20:=h20.out w6 hb0
 clear hv6 hl6 hS6 hby
 go_region_held3 (fun w'=>w'.cell? ⟨GO,20,none⟩=some (.slice (some ⟨g,0,none⟩) 32 32)) (first | exact h20.out _ (hb14.alloc hb14.size _) | exact h20.out _ hb14 | exact h20.out _ (hb12.alloc hb12.size _) | exact h20.out _ hb12 | exact h20.out _ hb10 | exact h20.out _ hb8 | exact h20.out _ hb0.drew | exact h20.out _ hb0) (first | (go_at_call 118;refine (hpub.out _ hb0.drew).mono ?_;rintro e w7 ⟨g7,c7,rfl,hg7,hR7,hb7⟩;replace hR7:=Lib.hid hR7;have hb8:=hb0.drew.trans (hb7.mono hb0.size);clear hb7) | (go_at_call 166;refine (hhow.out _ _ _ hb8 hR7.out).mono ?_;rintro e w9 ⟨g9,c9,rfl,hg9,hR9,hb9⟩;replace hR9:=Lib.hid hR9;have hb10:=hb8.trans (hb9.mono hb8.size);clear hb9) | (go_at_call 215;refine (hma.out _ _ _ hb10 hR9.out).mono ?_;rintro e w11 ⟨g11,c11,rfl,hg11,hR11,hb11⟩;replace hR11:=Lib.hid hR11;have hb12:=hb10.trans (hb11.mono hb10.size);clear hb11) | (go_at_call 205;refine (hcat.out _ _ _ hb12 hR11.out).mono ?_;rintro e w13 ⟨g13,c13,rfl,hg13,hR13,hb13⟩;replace hR13:=Lib.hid hR13;have hb14:=(hb12.alloc hb12.size _).trans (hb13.mono (hb12.alloc hb12.size _).size);clear hb13))
 have hP:=Lib.hid (show PostBs 64 (Sh.sigI f l) w (.returned (.slice (some ⟨g13,0,none⟩) 64 c13)) w13 from ⟨g13,c13,rfl,by
  have h1:=hb.out.size
  have h2:=hb12.size
  have h4:=((Below.refl w11.heap.size w11).alloc (Nat.le_refl _) (.cells #[.slice (some ⟨g6,0,none⟩) 32 32,.slice (some ⟨g11,0,none⟩) 32 c11] 22)).size
  omega,hR13.out,hb.out.trans (hb14.mono hb.out.size)⟩)
 clear hpub hhow hma h20 hcat
 go_wp2_with fail
 go_returns
 exact hP.out
end Go.Proofs.YtnopjabcdloepaaGreatDoor
