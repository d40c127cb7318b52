import Derived.Test.YtnopjabcdloepaaGreatDoorCe
import Derived.Test.YtnopjabcdloepaaGreatDoorZd
namespace Sh
structure End (T:Nat→Int) (n k:Nat):Prop where
 z:(n % 128+1+k) % 128=112
 k1:k<128
 b0:T n=128
 bz:∀ j,1≤j→j<9+k→T (n+j)=0
 bn:∀ j,j<8→T (n+(9+k+j))=8*(n:Int) / 2 ^ (56-8*j) % 256
def outI (V:Nat→Int) (j:Nat):Int:=V (j / 8) / 2 ^ (56-8*(j % 8)) % 256
theorem blkI_r (V b:Nat→Int) (j:Nat):0≤blkI V b j∧blkI V b j<18446744073709551616:=by
 unfold blkI
 rw [Go.IntKind.wrap_u64]
 omega
theorem ivI_r:∀ j,j<8→0≤ivI j∧ivI j<18446744073709551616:=by decide +kernel
theorem hsI_r (T:Nat→Int):∀ k j,j<8→0≤hsI T k j∧hsI T k j<18446744073709551616
 | 0,j,h=>ivI_r j h
 | _+1,j,_=>blkI_r _ _ j
end Sh
namespace Go.Proofs.YtnopjabcdloepaaGreatDoor
open Go.RowKit
theorem index8 (F:Nat→Int) (t:Nat) (h:t<8) (w:World):(Instr.index 378 (.agg (wA 8 F)) (.int .i64 (t:Int))).run Tryz.prog w=.ok (.int .u64 (F t)) w:=by
 have hs:∀ w,(sizeOf 200).run Tryz.prog w=.ok 1 w:=by
  intro w
  have:=u64_size
  cases hq:Tryz.prog.info? 200 with
  | none=>simp [hq] at this
  | some i=>simp [hq] at this;simp [sizeOf,typeInfo,hq,this]
 have hag:∀ w,(isAgg 200).run Tryz.prog w=.ok false w:=by
  intro w
  simp [isAgg,run_underlying u64_under]
 have hg:=wA_get 8 F t h
 simp [Instr.index,asIntOf,run_underlying words_under,hs,part,hag,hg,h]
section
variable {ops:Array Oper} {rest:List Oper} {o:Oper} {a:Act} {w:World} {Q:Exit→Act→World→Prop}
theorem wpList_app1 (hgd:o.guard=none) {s x:Operand} (ho:o.op=.call { callee:=.builtin .append,args:=#[s,x],argTypes:=#[22,22] }) {w0:World} {x0:Int} (hw:w=w0.alloc (.cells #[.int .u8 x0] 5)) {B g n c:Nat} (f:Nat→Int) (hs:a.eval s=.slice (some ⟨g,0,none⟩) n c) (hR:RowB w0 g n c f)
  {G:Nat} (hx:a.eval x=.slice (some ⟨G,0,none⟩) 1 1) (hG:G=w0.heap.size) (hf:x0=f n) (hb:n+1≤140737488355328) (hB:B≤g)
  (h:∀ g' c' w',RowB w' g' (n+1) c' f→w0.grownBy w' (some g)→B≤g'→(g'=g∨w0.heap.size≤g')→wpList Tryz.prog ops Q rest (a.put o.dst (.slice (some ⟨g',0,none⟩) (n+1) c')) w'):wpList Tryz.prog ops Q (o::rest) a w:=by
 subst hw hG
 have hb0:Below w0.heap.size w0 (w0.alloc (.cells #[.int .u8 x0] 5)):=(Below.refl _ _).alloc (Nat.le_refl _) _
 have hlt:=hR.lt
 refine wpList_app hgd ho hs (hR.below hb0) hx f (fun _ _=>rfl) (fun j hj=>?_) hb (fun g' c' w' h1 h2 h3=>?_)
 ·obtain rfl:j=0:=by omega
  rw [add_o,show n+0=n from rfl,← hf]
  exact (Blk.new w0 _ _).cell 0
 have hg:w0.grownBy w' (some g):=⟨h2.os,h2.tape,h2.output,Nat.le_trans hb0.size h2.size,fun k hk hn=>(h2.block k (Nat.lt_of_lt_of_le hk hb0.size) hn).trans (hb0.block k hk)⟩
 have hsz:=hb0.size
 exact h g' c' w' h1 hg (by rcases h3 with h | h <;> omega) (by rcases h3 with h | h <;> omega)
theorem wpList_app1O (hgd:o.guard=none) {s x:Operand} (ho:o.op=.call { callee:=.builtin .append,args:=#[s,x],argTypes:=#[22,22] }) {w0 w1:World} {x0:Int} (hw:w=w0.alloc (.cells #[.int .u8 x0] 5)) {B n:Nat} {v:Value} (O:Nat→Int) (hs:a.eval s=v) (hown:w0.ownsRow B 5 1 v n (cB n O))
  {G:Nat} (hx:a.eval x=.slice (some ⟨G,0,none⟩) 1 1) (hG:G=w0.heap.size) (hf:x0=O n) (hb:n+1≤1000000000) (hB:B≤w0.heap.size) (hbl:Below B w1 w0)
  (h:∀ v' w',w'.ownsRow B 5 1 v' (n+1) (cB (n+1) O)→Below B w1 w'→wpList Tryz.prog ops Q rest (a.put o.dst v') w'):wpList Tryz.prog ops Q (o::rest) a w:=by
 subst hw hG
 have hb0:Below w0.heap.size w0 (w0.alloc (.cells #[.int .u8 x0] 5)):=(Below.refl _ _).alloc (Nat.le_refl _) _
 have hsz:=hb0.size
 have e:(fun j=>O (0+j))=O:=funext fun j=>by rw [Nat.zero_add]
 refine wpList_appOB (T:=O) (q:=0) hgd ho hs (by rw [e];exact own_ext1 hown (Ext.below (S:=[]) hb0) (fun _ _=>by simp)) hx (fun _=>⟨w0.heap.size,0,rfl,(Blk.new w0 _ _).lt,fun j hj=>?_⟩) hb (by omega) (fun v' w' h1 h2 _=>?_)
 ·obtain rfl:j=0:=by omega
  rw [show (fun j=>O (0+n+j)) 0=O n from congrArg O (by omega),← hf]
  exact (Blk.new w0 _ _).cell 0
 rw [e] at h1
 exact h v' w' h1 ((hbl.trans (hb0.mono hB)).grown h2 (by omega) (fun k hk=>(hown.lt k hk).1))
end
theorem HS.grown {B:Nat} {w w':World} {g n:Nat} {T:Nat→Int} {sv:Value} (h:HS B w g T n sv) {x:Nat} (hg:w.grownBy w' (some x)) (h1:x≠g) (h2:sv.ownBlock≠some x):HS B w' g T n sv :=
 ⟨h.blk.grown hg (fun e=>h1 (Option.some.inj e).symm),own_ext1 h.own (Ext.grown (S:=[x]) (S':=[x]) hg (fun g e=>by injection e with e;subst e;exact List.mem_cons_self ..) (fun _ h=>.inl h)) (fun g e k=>by
  rw [List.mem_singleton] at k
  subst k
  exact h2 e),h.ne⟩
theorem HS.below {B C:Nat} {w w':World} {g n:Nat} {T:Nat→Int} {sv:Value} (h:HS B w g T n sv) (hb:Below C w w') (hC:w.heap.size≤C):HS B w' g T n sv :=
 have hb2:Below w.heap.size w w':=hb.mono hC
 ⟨h.blk.below hb2,own_ext1 h.own (Ext.below (S:=[]) hb2) (fun _ _=>by simp),h.ne⟩
theorem HS.ltS {B:Nat} {w:World} {g n:Nat} {T:Nat→Int} {sv:Value} (h:HS B w g T n sv):∀ x,sv.ownBlock=some x→x<w.heap.size:=fun x e=>(h.own.lt x e).2
def SumA (B n GC:Nat) (T:Nat→Int) (sv:Value) (w:World) (i:Nat) (v:Value) (wr:World):Prop:=∃ g c,v=.slice (some ⟨g,0,none⟩) i c∧RowB wr g i c (fun j=>T (n+j))∧B≤g∧g≠GC∧sv.ownBlock≠some g∧HS B wr GC T n sv∧Below B w wr
theorem SumA.next {n GC:Nat} {T:Nat→Int} {sv:Value} {w wr w2:World} {g m c g1:Nat} (hR2:RowB w2 g1 m c (fun j=>T (n+j))) (hg2:wr.grownBy w2 (some g)) (hBg:GC≤g) (hgG:g≠GC) (hgs:sv.ownBlock≠some g) (hH:HS GC wr GC T n sv) (hb:Below GC w wr) (hc:g1=g∨wr.heap.size≤g1):SumA GC n GC T sv w m (.slice (some ⟨g1,0,none⟩) m c) w2:=by
 have hlt:=hH.blk.lt
 have hl:=hH.ltS
 refine ⟨g1,c,rfl,hR2,by omega,by omega,fun e=>?_,hH.grown hg2 hgG hgs,hb.grown hg2 (Nat.le_of_lt hlt) (fun k hk=>by injection hk with hk;omega)⟩
 rcases hc with h | h
 ·subst h;exact hgs e
 have:=hl _ e
 omega
set_option maxRecDepth 20000 in
set_option maxHeartbeats 4000000 in
theorem hsum_c (B0 gH:Nat) (T:Nat→Int) (hT:∀ j,0≤T j∧T j<256) (n k:Nat) (hn:n≤10000000) (hE:Sh.End T n k) (sv:Value) (w:World) (hH:HS B0 w gH T n sv) (hS:ShP w) (hB3:3<w.heap.size):Calls Tryz.prog 245 #[.pointer (some ⟨gH,0,none⟩)] w (PostBs 64 (Sh.outI (Sh.hsI T ((n+(9+k+8)) / 128))) w):=by
 have hcy:=hcopy_c B0 gH T n sv w hH
 replace hcy:=Lib.hid hcy
 replace hE:=Lib.hid hE
 replace hS:=Lib.hid hS
 replace hT:=Lib.hid hT
 clear hH
 have hn0:(0:Int)≤(n:Int):=by omega
 have hn1:(n:Int)≤10000000:=by omega
 have hmk:∀ w,(Instr.makeSlice 22 (.int .i64 0) (.int .i64 256)).run Tryz.prog w=.ok (.slice (some ⟨w.heap.size,0,none⟩) 0 256) (w.alloc (.cells (List.replicate 256 (.int .u8 0)).toArray 5)):=fun _=>by kernel_rfl
 go_enter Tryz.func245,Tryz.ntmps245
 go_wp2_with fail
 refine hcy.out.mono ?_
 rintro e w1 ⟨sv1,rfl,hH1,hb1⟩
 clear hcy
 obtain ⟨p1,c1,rfl⟩:=own_slB hH1.own
 have u9:=hH1.blk.cell 9
 rw [(hC_made _ _ _).2.2] at u9
 have hw1:IntKind.u64.wrap (8*(n:Int))=8*(n:Int):=u64_small (by omega) (by omega)
 obtain ⟨GC,hGC⟩:∃ GC,GC=w.heap.size:=⟨_,rfl⟩
 rw [← hGC] at hH1 u9 hb1 ⊢
 replace hGC:=Lib.hid hGC
 have hltG:=hH1.blk.lt
 have hl1:=hH1.ltS
 replace hH1:=Lib.hid hH1
 obtain ⟨z256,hz⟩:∃ z,z=(List.replicate 256 (Value.int .u8 0)).toArray:=⟨_,rfl⟩
 rw [← hz] at hmk
 have hR0:RowB (w1.alloc (.cells z256 5)) w1.heap.size 0 256 (fun j=>T (n+j)):=⟨_,heap_alloc_new w1 _,Nat.zero_le _,by decide,by rw [hz];simp,rfl⟩
 clear hz
 replace hR0:=Lib.hid hR0
 go_wp2_with (at_builtin;refine wpList_app1 (B:=GC) rfl rfl rfl _ rfl hR0.out rfl (by simp) hE.out.b0.symm (by decide) (by omega) ?_;intro g1 c2 w2 hR2 hg2 hBg hcase)
 have hx1:(Value.slice p1 (n % 128) c1).ownBlock≠some w1.heap.size:=fun e=>by have:=hl1 _ e;omega
 have ha1:Below w1.heap.size w1 (w1.alloc (.cells z256 5)):=(Below.refl _ _).alloc (Nat.le_refl _) _
 have hH2:=(hH1.out.below ha1 (Nat.le_refl _)).grown hg2 (by omega) hx1
 have hb2:Below GC w w2:=(hb1.trans (ha1.mono (by omega))).grown hg2 (by have:=ha1.size;omega) (fun k hk=>by injection hk with hk;omega)
 have hsz2:w1.heap.size≤w2.heap.size:=Nat.le_trans ha1.size hg2.size
 have hA:=Lib.hid (show SumA GC n GC T (.slice p1 (n % 128) c1) w 1 (.slice (some ⟨g1,0,none⟩) 1 c2) w2 from ⟨g1,c2,rfl,hR2,hBg,by
  rcases hcase with h | h
  ·omega
  ·have:=ha1.size;omega,fun e=>by
  have h1:=hl1 _ e
  rcases hcase with h | h
  ·omega
  have:=ha1.size;omega,hH2,hb2⟩)
 clear hR0 hR2 hg2 hBg hcase hH1 hH2 hb1 hb2 ha1 hsz2 hx1 hl1 hltG u9 hmk
 generalize hvz:Value.slice (some ⟨g1,0,none⟩) 1 c2=vv at hA ⊢
 go_loopw [5] (fun v wr=>∃ i,1≤i∧i≤1+k∧SumA GC n GC T (.slice p1 (n % 128) c1) w i v wr) (fun v _=>match v with | .slice _ n _=>200-n | _=>0)
 case atStart=>exact ⟨1,Nat.le_refl _,by omega,hA.out⟩
 case round =>
  clear hA hvz
  obtain ⟨i,hi1,hik,g,c,rfl,hR,hBg,hgG,hgs,hH,hb⟩:=hrel
  have u8:=hH.blk.cell 8
  rw [(hC_made _ _ _).2.1] at u8
  have hk1:=hE.out.k1
  have hz:=hE.out.z
  obtain ⟨r,hr⟩:∃ r,r=n % 128:=⟨_,rfl⟩
  rw [← hr] at hz hH u8 hgs
  have hr128:r<128:=by omega
  replace hr:=Lib.hid hr
  have hr0:(0:Int)≤(r:Int):=by omega
  have hr1:(r:Int)<128:=by omega
  have hi0:(0:Int)≤(i:Int):=by omega
  have hi2:(i:Int)≤128:=by omega
  replace hH:=Lib.hid hH
  replace hR:=Lib.hid hR
  replace hb:=Lib.hid hb
  replace hgs:=Lib.hid hgs
  by_cases hii:i=1+k
  ·have ht:Int.tmod ((r:Int)+(i:Int)) 128=112:=by rw [Int.tmod_eq_emod_of_nonneg (by omega)];omega
   replace hii:=Lib.hid hii
   replace hz:=Lib.hid hz
   have h48:((8:Nat):Int)=8:=rfl
   go_wp2_with (at_builtin;refine wpList_appZ (k:=8) rfl rfl rfl rfl hR.out (by decide) (by decide) (by omega) ?_;intro g1 c2 w2 hR2 hg2 hcase)
   have hA:=Lib.hid (show SumA GC n GC T (.slice p1 r c1) w (9+k) (.slice (some ⟨g1,0,none⟩) (i+8) c2) w2 from by
    have e:i+8=9+k:=by have:=hii.out;omega
    rw [e] at hR2 ⊢
    refine SumA.next (hR2.congr (fun j hj=>?_)) hg2 hBg hgG hgs.out (by rw [hr.out];rw [← hr.out];exact hH.out) hb.out (by rcases hcase with h | h <;> omega)
    unfold fz
    split
    ·rfl
    exact (hE.out.bz j (by omega) hj).symm)
   clear hR2 hg2 hcase hBg hgG hgs hH hb hR u8 hi1 hik ht hi0 hi2 hz hii
   generalize hvz:Value.slice (some ⟨g1,0,none⟩) (i+8) c2=v2 at hA ⊢
   go_loopw [5,6] (fun v q wr=>∃ m:Nat,m≤8∧q=.int .i64 (56-8*m)∧SumA GC n GC T (.slice p1 r c1) w (9+k+m) v wr) (fun _ q _=>(intOf q+8).toNat)
   case atStart=>exact ⟨0,by decide,rfl,hA.out⟩
   case round =>
    clear hA hvz
    obtain ⟨m,hm8,rfl,g,c,rfl,hR,hBg,hgG,hgs,hH,hb⟩:=hrel
    replace hH:=Lib.hid hH
    replace hR:=Lib.hid hR
    replace hb:=Lib.hid hb
    replace hgs:=Lib.hid hgs
    have hm0:(0:Int)≤(m:Int):=by omega
    by_cases hme:m=8
    ·subst hme
     have hm9:¬ (0:Int)≤56-8*((8:Nat):Int):=by omega
     have ha:Below wr.heap.size wr (wr.alloc (.cells #[.slice (some ⟨g,0,none⟩) (9+k+8) c] 22)):=(Below.refl _ _).alloc (Nat.le_refl _) _
     have hltG:=hH.out.blk.lt
     have hasz:=ha.size
     have h3G:3<GC:=by have:=hGC.out;omega
     have hge:∀ x,x∈GC::obv (.slice p1 r c1)→GC≤x:=fun x hx=>by
      rcases List.mem_cons.1 hx with h | h
      ·exact Nat.le_of_eq h.symm
      exact (hH.out.own.lt x (mem_obv.1 h)).1
     have hPX:PX (GC::obv (.slice p1 r c1)) (wr.alloc (.cells #[.slice (some ⟨g,0,none⟩) (9+k+8) c] 22)) (some ⟨wr.heap.size,0,none⟩) 1 (fun i=>if i=0 then n else n+(9+k+8)) T:=fun _=>by
      have hlts:=hH.out.ltS
      refine ⟨wr.heap.size,0,rfl,(Blk.new wr _ _).lt,fun hm=>?_,fun i hi=>?_⟩
      ·rcases List.mem_cons.1 hm with h | h
       ·omega
       have:=hlts _ (mem_obv.1 h);omega
      obtain rfl:i=0:=by omega
      have e:n+(9+k+8)-n=9+k+8:=by omega
      have hR2:=hR.out.below ha
      obtain ⟨cur,k1,k2,k3⟩:=id hR2
      refine ⟨some ⟨g,0,none⟩,c,?_,?_,?_⟩
      ·show _=some (Value.slice (some ⟨g,0,none⟩) (n+(9+k+8)-n) c)
       rw [e]
       exact (Blk.new wr _ _).cell 0
      ·show n+(9+k+8)-n≤c
       omega
      show BX _ _ _ (n+(9+k+8)-n) (fun j=>T (n+j))
      rw [e]
      refine fun _=>⟨g,0,rfl,hR2.lt,fun hm=>?_,fun j hj=>by rw [Nat.zero_add];exact hR2.cell j hj⟩
      rcases List.mem_cons.1 hm with h | h
      ·exact hgG h
      exact hgs.out (mem_obv.1 h)
     have hw:=Lib.hid (write_c GC GC T hT.out (.slice p1 r c1) (some ⟨wr.heap.size,0,none⟩) 1 1 (fun i=>if i=0 then n else n+(9+k+8)) (fun i=>by rw [if_neg (Nat.succ_ne_zero i)];split <;> omega) (fun i _=>by split <;> omega) (by decide) (wr.alloc (.cells #[.slice (some ⟨g,0,none⟩) (9+k+8) c] 22)) (by omega) (hH.out.below ha (Nat.le_refl _)) hPX ((hS.out.below hb.out h3G).below ha (by omega)) h3G (Nat.le_refl _))
     have hbw:=hb.out.trans (ha.mono (Nat.le_of_lt hltG))
     clear hPX
     replace ha:=Lib.hid ha
     replace hbw:=Lib.hid hbw
     go_wp2_with fail
     refine hw.out.mono ?_
     rintro e w3 ⟨rfl,sv3,hH3,hE3⟩
     replace hH3:HS GC w3 GC T (n+(9+k+8)) sv3:=hH3
     have hb3:Below GC w w3:=hbw.out.trans (hE3.old (by omega) hge)
     have hcv:=fun j hj=>hcell hH3.blk j hj
     obtain ⟨V,hV⟩:∃ V,V=Sh.hsI T ((n+(9+k+8)) / 128):=⟨_,rfl⟩
     rw [← hV] at hcv
     have hVr:=Sh.hsI_r T ((n+(9+k+8)) / 128)
     rw [← hV] at hVr
     have hG3:=hH3.blk.lt
     replace hcv:=Lib.hid hcv
     replace hV:=Lib.hid hV
     replace hVr:=Lib.hid hVr
     replace hb3:=Lib.hid hb3
     clear hw hH3 hE3 hbw ha hge hR hH hb hgs
     go_wp2_with (refine ld8 rfl rfl rfl hcv.out ?_)
     clear hcv
     go_loopw [7,57] (fun v q wr=>∃ i:Nat,i≤8∧q=.int .i64 i∧wr.ownsRow GC 5 1 v (8*i) (cB (8*i) (Sh.outI V))∧Below GC w wr∧GC<wr.heap.size) (fun _ q _=>(8-intOf q).toNat)
     case atStart=>exact ⟨0,by decide,rfl,⟨rfl,.inl ⟨rfl,rfl⟩⟩,hb3.out,hG3⟩
     case round =>
      clear hb3 hG3
      obtain ⟨i,hi8,rfl,hO,hb,hG⟩:=hrel
      replace hO:=Lib.hid hO
      replace hb:=Lib.hid hb
      by_cases hie:i=8
      ·subst hie
       obtain ⟨g2,c2,rfl,hB2,hR2⟩:=own_rowB hO.out (by decide)
       have hP:=Lib.hid (show PostBs 64 (Sh.outI (Sh.hsI T ((n+(9+k+8)) / 128))) w (.returned (.slice (some ⟨g2,0,none⟩) 64 c2)) wr from ⟨g2,c2,rfl,by have:=hGC.out;omega,by rw [← hV.out];exact hR2,by rw [← hGC.out];exact hb.out⟩)
       clear hR2 hO
       go_wp2_with fail
       go_returns
       exact hP.out
      have hii:(i:Int)<8:=by omega
      have hix:=index8 V i (by omega)
      obtain ⟨hv0,hv1⟩:=hVr.out i (by omega)
      obtain ⟨x,hx⟩:∃ x,x=V i:=⟨_,rfl⟩
      rw [← hx] at hix hv0 hv1
      replace hx:=Lib.hid hx
      go_wp2_with fail
      clear hix
      go_loopw [7,10] (fun v q wr=>∃ m:Nat,m≤8∧q=.int .i64 (56-8*m)∧wr.ownsRow GC 5 1 v (8*i+m) (cB (8*i+m) (Sh.outI V))∧Below GC w wr∧GC<wr.heap.size) (fun _ q _=>(intOf q+8).toNat)
      case atStart=>exact ⟨0,by decide,rfl,hO.out,hb.out,hG⟩
      case round =>
       clear hO hb hG
       obtain ⟨m,hm8,rfl,hO,hb,hG⟩:=hrel
       replace hO:=Lib.hid hO
       replace hb:=Lib.hid hb
       have hm0:(0:Int)≤(m:Int):=by omega
       by_cases hme:m=8
       ·subst hme
        go_wp2_with fail
        exact ⟨⟨i+1,by omega,by simp,hO.out,hb.out,hG⟩,by simp [intOf];omega⟩
       have hm8i:(m:Int)<8:=by omega
       have hs:(56-8*(m:Int)).toNat=56-8*m:=by omega
       have hs0:(0:Int)≤56-8*(m:Int):=by omega
       have hs1:¬ (56-8*(m:Int))<0:=by omega
       have hbn:x / 2 ^ (56-8*m) % 256=Sh.outI V (8*i+m):=by
        unfold Sh.outI
        rw [show (8*i+m) / 8=i by omega,show (8*i+m) % 8=m by omega,hx.out]
       replace hbn:=Lib.hid hbn
       have hGle:GC≤wr.heap.size:=by omega
       go_wp2_with (at_builtin;refine wpList_app1O (B:=GC) rfl rfl rfl (Sh.outI V) rfl hO.out rfl (by simp) hbn.out (by omega) hGle hb.out ?_;intro v4 w4 hO4 hb4)
       have hG4:GC<w4.heap.size:=by
        obtain ⟨g5,c5,_,h5,hR5⟩:=own_rowB hO4 (Nat.succ_pos _)
        have:=hR5.lt
        omega
       exact ⟨⟨m+1,by omega,by simp;omega,hO4,hb4,hG4⟩,by simp [intOf];omega⟩
    have hm8i:(m:Int)<8:=by omega
    have hs:(56-8*(m:Int)).toNat=56-8*m:=by omega
    have hs0:(0:Int)≤56-8*(m:Int):=by omega
    have hs1:¬ (56-8*(m:Int))<0:=by omega
    have hbn:=Lib.hid (hE.out.bn m (by omega))
    go_wp2_with (at_builtin;refine wpList_app1 (B:=GC) rfl rfl rfl _ rfl hR.out rfl (by simp) hbn.out.symm (by omega) hBg ?_;intro g1 c2 w2 hR2 hg2 hBg2 hcase)
    refine ⟨⟨m+1,by omega,by simp;omega,SumA.next hR2 hg2 hBg hgG hgs.out hH.out hb.out hcase⟩,by simp [intOf];omega⟩
  obtain ⟨t,ht,ht0,ht1,ht2⟩:∃ t:Int,Int.tmod ((r:Int)+(i:Int)) 128=t∧0≤t∧t<128∧¬ t=112:=by
   rw [Int.tmod_eq_emod_of_nonneg (by omega)]
   exact ⟨_,rfl,by omega,by omega,by omega⟩
  replace hz:=Lib.hid hz
  have h0:(0:Int)=T (n+i):=by
   refine (hE.out.bz i hi1 (by omega)).symm
  replace h0:=Lib.hid h0
  go_wp2_with (at_builtin;refine wpList_app1 (B:=GC) rfl rfl rfl _ rfl hR.out rfl (by simp) h0.out (by omega) hBg ?_;intro g1 c2 w2 hR2 hg2 hBg2 hcase)
  exact ⟨⟨i+1,by omega,by omega,by rw [← hr.out];exact SumA.next hR2 hg2 hBg hgG hgs.out hH.out hb.out hcase⟩,by dsimp only;omega⟩
end Go.Proofs.YtnopjabcdloepaaGreatDoor
