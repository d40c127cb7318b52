import Derived.Test.YtnopjabcdloepaaGreatDoorCc
import Derived.Deep.Cut
import Derived.Deep.CutRange
import Derived.Deep.RegionLaw
namespace Go.Proofs.YtnopjabcdloepaaGreatDoor
open Go.RowKit
def obv (v:Value):List Nat:=match v.ownBlock with | some g=>[g] | none=>[]
theorem mem_obv {v:Value} {g:Nat}:g∈obv v↔v.ownBlock=some g:=by
 unfold obv
 cases v.ownBlock with
 | none=>simp
 | some x=>simp [eq_comm]
theorem hC_set8 (V:Nat→Int) (sv sv':Value) (N:Int):(hC V sv N).setIfInBounds 8 sv'=hC V sv' N:=by
 unfold hC
 apply Array.ext_getElem?
 intro i
 rw [Array.getElem?_setIfInBounds]
 by_cases e:8=i
 ·subst e
  rw [if_pos rfl,if_pos (by simp [wA_size]),Array.getElem?_append_right (by rw [wA_size];decide),wA_size]
  rfl
 rw [if_neg e]
 by_cases h:i<8
 ·rw [Array.getElem?_append_left (by rw [wA_size];exact h),Array.getElem?_append_left (by rw [wA_size];exact h)]
 rw [Array.getElem?_append_right (by rw [wA_size];omega),Array.getElem?_append_right (by rw [wA_size];omega),wA_size]
 obtain ⟨d,hd⟩:∃ d,i-8=d+1:=⟨i-9,by omega⟩
 rw [hd]
 simp
theorem hC_set9 (V:Nat→Int) (sv:Value) (N M:Int):(hC V sv N).setIfInBounds 9 (.int .u64 M)=hC V sv M:=by
 unfold hC
 apply Array.ext_getElem?
 intro i
 rw [Array.getElem?_setIfInBounds]
 by_cases e:9=i
 ·subst e
  rw [if_pos rfl,if_pos (by simp [wA_size]),Array.getElem?_append_right (by rw [wA_size];decide),wA_size]
  rfl
 rw [if_neg e]
 by_cases h:i<8
 ·rw [Array.getElem?_append_left (by rw [wA_size];exact h),Array.getElem?_append_left (by rw [wA_size];exact h)]
 rw [Array.getElem?_append_right (by rw [wA_size];omega),Array.getElem?_append_right (by rw [wA_size];omega),wA_size]
 by_cases e8:i=8
 ·subst e8;rfl
 obtain ⟨d,hd⟩:∃ d,i-8=d+2:=⟨i-10,by omega⟩
 rw [hd]
 simp
theorem hset8 {w:World} {g:Nat} {ty:TypeId} {V:Nat→Int} {sv:Value} {N:Int} (h:Blk w g ty (hC V sv N)) (sv':Value):Blk (w.setCell ⟨g,8,none⟩ sv') g ty (hC V sv' N):=by
 have h2:=h.set_ 8 sv'
 rw [hC_set8] at h2
 exact h2
theorem hset9 {w:World} {g:Nat} {ty:TypeId} {V:Nat→Int} {sv:Value} {N:Int} (h:Blk w g ty (hC V sv N)) (M:Int):Blk (w.setCell ⟨g,9,none⟩ (.int .u64 M)) g ty (hC V sv M):=by
 have h2:=h.set_ 9 (.int .u64 M)
 rw [hC_set9] at h2
 exact h2
def PX (S:List Nat) (w:World) (p:Option Addr) (k:Nat) (off:Nat→Nat) (T:Nat→Int):Prop:=0<k→∃ g o,p=some ⟨g,o,none⟩∧g<w.heap.size∧g ∉ S∧∀ i,i<k→∃ pi ci,w.cell? ⟨g,o+i,none⟩=some (.slice pi (off (i+1)-off i) ci)∧off (i+1)-off i≤ci∧BX S w pi (off (i+1)-off i) (fun j=>T (off i+j))
theorem PX.ext {S S':List Nat} {w w':World} {p:Option Addr} {k:Nat} {off:Nat→Nat} {T:Nat→Int} (h:PX S w p k off T) (hE:Ext S w S' w'):PX S' w' p k off T:=fun h0=>by
 obtain ⟨g,o,e,hg,hS,hc⟩:=h h0
 obtain ⟨h1,h2,h3⟩:=hE.at hg hS
 refine ⟨g,o,e,h3,h2,fun i hi=>?_⟩
 obtain ⟨pi,ci,a1,a2,a3⟩:=hc i hi
 exact ⟨pi,ci,(World.cell?_of_block (w:=w) (a:=⟨g,o+i,none⟩) h1).trans a1,a2,a3.ext hE⟩
structure HS (B:Nat) (w:World) (g:Nat) (T:Nat→Int) (n:Nat) (sv:Value):Prop where
 blk:Blk w g 380 (hC (Sh.hsI T (n / 128)) sv (n:Int))
 own:w.ownsRow B 5 1 sv (n % 128) (cB (n % 128) (fun j=>T (128*(n / 128)+j)))
 ne:sv.ownBlock≠some g
theorem own_ext1 {S S':List Nat} {w w':World} {B:Nat} {e:TypeId} {size:Nat} {v:Value} {n:Nat} {xs:List Value} (h:w.ownsRow B e size v n xs) (hb:Ext S w S' w') (hS:∀ g,v.ownBlock=some g→g ∉ S):w'.ownsRow B e size v n xs:=by
 refine ⟨h.1,h.2.imp id ?_⟩
 rintro ⟨g,cap,cur,rfl,h1,h2,h3⟩
 exact ⟨g,cap,cur,rfl,h1,(hb.block g (Array.getElem?_eq_some_iff.1 h2).1 (hS g rfl)).trans h2,h3⟩
theorem run_slHi (p:Option Addr) (l c m:Nat) (h:m≤c) (w:World):(Instr.slice 22 (.slice p l c) none (some (.int .i64 (m:Int))) none).run Tryz.prog w=.ok (.slice p m c) w:=by
 obtain ⟨i,hi,hz,hs,hby⟩:=info3 u8_info'
 have h1:(0:Int)≤(m:Int)∧(m:Int)≤(c:Int):=by omega
 simp [Instr.slice,Instr.sliceBounds,Instr.sliceBound,asIntOf,run_underlying by_under',sizeOf,typeInfo,hi,h1,h]
 intro _
 cases p <;> simp [Addr.add]
theorem step_appOB {ops:Array Oper} {o:Oper} {a:Act} {w:World} {K:Act→World→Prop} {Q:Exit→Act→World→Prop} {E:Prop} (hgd:o.guard=none) {s x:Operand} (ho:o.op=.call { callee:=.builtin .append,args:=#[s,x],argTypes:=#[22,22] }) {v:Value} (hs:a.eval s=v) {base n:Nat} {T:Nat→Int} {q:Nat} (hown:w.ownsRow base 5 1 v n (cB n (fun j=>T (q+j))))
  {p:Option Addr} {m c:Nat} (hx:a.eval x=.slice p m c) (hX:BAt w p m (fun j=>T (q+n+j))) (hb:n+m≤1000000000) (hbase:base≤w.heap.size)
  (h:∀ p5 c5 w',w'.ownsRow base 5 1 (.slice p5 (n+m) c5) (n+m) (cB (n+m) (fun j=>T (q+j)))→w.grownBy w' v.ownBlock→((Value.slice p5 (n+m) c5).ownBlock=v.ownBlock∨(Value.slice p5 (n+m) c5).ownBlock=some w.heap.size)→K (a.put o.dst (.slice p5 (n+m) c5)) w'):if Region.wanted o (yielded ops a.tmps)=true then Oper.wp Tryz.prog o a w K Q else E:=by
 have hw:Region.wanted o (yielded ops a.tmps)=true:=by simp [Region.wanted,hgd]
 rw [if_pos hw]
 obtain ⟨v',w',hr,h2,h3,h4⟩:=run_appOB w o.type base v n T q hown p m c hX hb hbase
 obtain ⟨p5,c5,rfl⟩:=own_slB h2
 unfold Oper.wp
 simp only [execOp,ho,resolve,invoke,builtin,Sem.run_bind,Sem.run_pure,Result.andThen_ok,List.map_toArray,List.map_cons,List.map_nil,hs,hx,hr]
 exact h p5 c5 w' h2 h3 h4
theorem at_exit {K:Exit→Act→World→Prop} {e:Exit} {a:Act} {W:World} (h:∀ W0,W0=W→K e a W0):K e a W:=h W rfl
theorem at_met {J:Act→World→Prop} {a:Act} {W:World} (h:∀ W0,W0=W→Met J a W0):Met J a W:=h W rfl
theorem own_len (p:Option Addr) (n m c:Nat):(Value.slice p n c).ownBlock=(Value.slice p m c).ownBlock:=by cases p <;> rfl
theorem obv_len (p:Option Addr) (n m c:Nat):obv (.slice p n c)=obv (.slice p m c):=by unfold obv;rw [own_len p n m c]
def cutP (p:Option Addr) (c m:Nat):Option Addr:=if c=m then p else p.map (·.add m)
theorem run_slLo (p:Option Addr) (l c m:Nat) (h:m≤l) (w:World):(Instr.slice 22 (.slice p l c) (some (.int .i64 (m:Int))) none none).run Tryz.prog w=.ok (.slice (cutP p c m) (l-m) (c-m)) w:=by
 obtain ⟨i,hi,hz,hs,hby⟩:=info3 u8_info'
 have h1:(0:Int)≤(m:Int)∧(m:Int)≤(l:Int):=by omega
 simp [Instr.slice,Instr.sliceBounds,Instr.sliceBound,asIntOf,run_underlying by_under',sizeOf,typeInfo,hi,hs,h1,h,cutP]
theorem BX.cut {S:List Nat} {w:World} {p:Option Addr} {l c m:Nat} {T:Nat→Int} {nn:Nat} (h:BX S w p l (fun j=>T (nn+j))) (hm:m≤l) (hc:l≤c):BX S w (cutP p c m) (l-m) (fun j=>T (nn+m+j)):=fun h0=>by
 obtain ⟨g,o,rfl,hg,hS,hcell⟩:=h (by omega)
 have e:cutP (some ⟨g,o,none⟩) c m=some ⟨g,o+m,none⟩:=by
  unfold cutP
  rw [if_neg (by omega),Option.map_some,add_o]
 refine ⟨g,o+m,e,hg,hS,fun j hj=>?_⟩
 have h2:=hcell (m+j) (by omega)
 dsimp only at h2 ⊢
 rw [Nat.add_assoc,h2,Nat.add_assoc]
theorem BX.pre {S:List Nat} {w:World} {p:Option Addr} {l m:Nat} {b:Nat→Int} (h:BX S w p l b) (hm:m≤l):BX S w p m b:=fun h0=>by
 obtain ⟨g,o,e,hg,hS,hcell⟩:=h (by omega)
 exact ⟨g,o,e,hg,hS,fun j hj=>hcell j (by omega)⟩
theorem own_some {w:World} {B n:Nat} {p:Option Addr} {c:Nat} {f:Nat→Int} (h:w.ownsRow B 5 1 (.slice p n c) n (cB n f)) (hn:0<n):∃ g,p=some ⟨g,0,none⟩∧B≤g∧g<w.heap.size∧n≤c∧∀ j,j<n→w.cell? ⟨g,0+j,none⟩=some (.int .u8 (f j)):=by
 obtain ⟨g,c',e,hB,hR⟩:=own_rowB h hn
 injection e with e1 _ e3
 subst e1 e3
 obtain ⟨cur,h1,h2,_⟩:=id hR
 exact ⟨g,rfl,hB,hR.lt,h2,fun j hj=>by rw [Nat.zero_add];exact hR.cell j hj⟩
theorem own_none {w:World} {B n:Nat} {p:Option Addr} {c:Nat} {xs:List Value} (h:w.ownsRow B 5 1 (.slice p n c) n xs):w.ownsRow B 5 1 (.slice p 0 c) 0 []:=by
 refine ⟨rfl,?_⟩
 rcases h.2 with ⟨e,_⟩ | ⟨g,cap,cur,e,h1,h2,h3,h4,h5,h6⟩
 ·injection e with e1 e2 e3
  subst e1 e2 e3
  exact .inl ⟨rfl,rfl⟩
 injection e with e1 e2 e3
 subst e1 e3
 exact .inr ⟨g,_,cur,rfl,h1,h2,Nat.zero_le _,h4,h5,by simp⟩
def MidW (B gH:Nat) (T:Nat→Int) (nn l:Nat) (sv:Value) (w:World) (v6:Value) (wx:World):Prop:=∃ y p6 c6 p7 c7,v6=.slice p6 (l-y) c6∧y≤l∧l-y≤c6∧(nn+y) % 128=0∧Blk wx gH 380 (hC (Sh.hsI T ((nn+y) / 128)) (.slice p7 0 c7) ((nn:Int)+(l:Int)))∧wx.ownsRow B 5 1 (.slice p7 0 c7) 0 []∧(Value.slice p7 0 c7).ownBlock≠some gH∧Ext (gH::obv sv) w (gH::obv (.slice p7 0 c7)) wx∧BX (gH::obv (.slice p7 0 c7)) wx p6 (l-y) (fun j=>T (nn+y+j))
def PostW (B g:Nat) (T:Nat→Int) (n:Nat) (sv:Value) (w:World) (e:Ending) (w':World):Prop:=e=.returned (.int .i64 0)∧∃ sv',HS B w' g T n sv'∧Ext (g::obv sv) w (g::obv sv') w'
set_option maxRecDepth 100000 in
set_option maxHeartbeats 4000000 in
theorem write_c (B gH:Nat) (T:Nat→Int) (hT:∀ j,0≤T j∧T j<256) (sv:Value) (p:Option Addr) (k c:Nat) (off:Nat→Nat) (hoff:∀ i,off i≤off (i+1)) (hmax:∀ i,i≤k→off i≤100000000) (hk:k≤1000000) (w:World) (hB:B≤w.heap.size) (hH:HS B w gH T (off 0) sv) (hP:PX (gH::obv sv) w p k off T) (hS:ShP w) (hB3:3<B) (hBg:B≤gH):Calls Tryz.prog 244 #[.pointer (some ⟨gH,0,none⟩),.slice p k c] w (PostW B gH T (off k) sv w):=by
 have hth:=there_c gH _ _ _ w hH.blk
 have hge:=Lib.hid (show ∀ k,k∈gH::obv sv→B≤k from fun k hk=>by
  rcases List.mem_cons.1 hk with h | h
  ·exact h ▸ hBg
  exact (hH.own.lt k (mem_obv.1 h)).1)
 replace hth:=Lib.hid hth
 replace hH:=Lib.hid hH
 replace hP:=Lib.hid hP
 replace hT:=Lib.hid hT
 replace hoff:=Lib.hid hoff
 replace hmax:=Lib.hid hmax
 replace hS:=Lib.hid hS
 have hk0:(0:Int)≤(k:Int):=by omega
 have hk1:(k:Int)≤1000000:=by omega
 go_enter Tryz.func244,Tryz.ntmps244
 go_wp2_with (refine hth.out.mono ?_;rintro e w1 ⟨rfl,rfl⟩)
 clear hth
 go_loopw [13] (fun q wr=>∃ i:Nat,i≤k∧q=.int .i64 i∧∃ si,HS B wr gH T (off i) si∧Ext (gH::obv sv) w (gH::obv si) wr) (fun q _=>(k-intOf q).toNat)
 case atStart=>exact ⟨0,by omega,rfl,sv,hH.out,Ext.refl _ _⟩
 case round =>
  obtain ⟨i,hi,he,si,hHi,hE⟩:=hrel
  subst he
  by_cases hik:i=k
  ·subst hik
   have hP:=Lib.hid (show PostW B gH T (off i) sv w (.returned (.int .i64 0)) wr from ⟨rfl,si,hHi,hE⟩)
   clear hHi hE
   go_wp2
   go_returns
   exact hP.out
  have hi0:(0:Int)≤(i:Int):=by omega
  have hi1:(i:Int)<(k:Int):=by omega
  obtain ⟨g,o,rfl,hg,hgS,hc⟩:=(hP.out.ext hE) (by omega)
  obtain ⟨pi,ci,a1,a2,a3⟩:=hc i (by omega)
  have hm1:=hmax.out i (by omega)
  have hm2:=hmax.out (i+1) (by omega)
  have hf:=hoff.out i
  obtain ⟨nn,hnn⟩:∃ n,n=off i:=⟨_,rfl⟩
  obtain ⟨mm,hmm⟩:∃ n,n=off (i+1):=⟨_,rfl⟩
  rw [← hnn,← hmm] at a1 a2 a3
  rw [← hnn] at hHi hm1 hf
  rw [← hmm] at hm2 hf
  replace hnn:=Lib.hid hnn
  replace hmm:=Lib.hid hmm
  obtain ⟨l,hl⟩:∃ l,l=mm-nn:=⟨_,rfl⟩
  rw [← hl] at a1 a2 a3
  obtain rfl:mm=nn+l:=by omega
  clear hl hf hc
  have hl0:(0:Int)≤(l:Int):=by omega
  have hl1:(l:Int)≤100000000:=by omega
  have hn0:(0:Int)≤(nn:Int):=by omega
  have hn1:(nn:Int)≤100000000:=by omega
  obtain ⟨p2,c2,rfl⟩:=own_slB hHi.own
  have u9:=hHi.blk.cell 9
  rw [(hC_made _ _ _).2.2] at u9
  have u8:=hHi.blk.cell 8
  rw [(hC_made _ _ _).2.1] at u8
  have f9:=fun j=>hHi.blk.frozen j
  have hw1:IntKind.u64.wrap (l:Int)=(l:Int):=u64_small (by omega) (by omega)
  have hw2:IntKind.u64.wrap ((nn:Int)+(l:Int))=(nn:Int)+(l:Int):=by rw [IntKind.wrap_u64];omega
  have hr128:nn % 128<128:=Nat.mod_lt _ (by decide)
  obtain ⟨r,hr⟩:∃ r,r=nn % 128:=⟨_,rfl⟩
  have hn128:nn=128*(nn / 128)+r:=by omega
  obtain ⟨q,hq⟩:∃ q,q=nn / 128:=⟨_,rfl⟩
  have hHb:=hHi.blk
  have hHo:=hHi.own
  have hHn:=hHi.ne
  rw [← hr] at hE hgS a3 u8 hr128 hHb hHo hHn
  rw [← hq] at hn128 hHb hHo
  clear hHi hr hq
  replace hn128:=Lib.hid hn128
  have hr0:(0:Int)≤(r:Int):=by omega
  have hr1:(r:Int)<128:=by omega
  replace hHb:=Lib.hid hHb
  replace hHo:=Lib.hid hHo
  replace hHn:=Lib.hid hHn
  replace hE:=Lib.hid hE
  replace hgS:=Lib.hid hgS
  replace a3:=Lib.hid a3
  go_upto_region 7 with fail
  refine at_world (fun W1 hW=>?_)
  have hHb1:Blk W1 gH 380 (hC (Sh.hsI T q) (.slice p2 r c2) ((nn:Int)+(l:Int))):=by rw [hW];exact hset9 hHb.out _
  have hE1:Ext (gH::obv (.slice p2 r c2)) wr (gH::obv (.slice p2 r c2)) W1:=by rw [hW];exact Ext.grown (grown_cell (b2g (g:=gH) (Below.refl _ _)) 9 _) (fun g e=>by injection e with e;subst e;exact List.mem_cons_self ..) (fun _ h=>.inl h)
  have hE0:Ext [gH] wr [gH] W1:=by rw [hW];exact Ext.grown (grown_cell (b2g (g:=gH) (Below.refl _ _)) 9 _) (fun g e=>by injection e with e;subst e;exact List.mem_cons_self ..) (fun _ h=>.inl h)
  clear hW hHb u8 u9 f9 a1
  replace hE:=Lib.hid (hE.out.trans hE1)
  replace a3:=Lib.hid (a3.out.ext hE1)
  replace hgS:=Lib.hid (hE1.at hg hgS.out).2.1
  have hHo1:=Lib.hid (own_ext1 hHo.out hE0 (fun g e h=>by
   rw [List.mem_singleton] at h
   subst h
   exact hHn.out e))
  have u8:=hHb1.cell 8
  rw [(hC_made _ _ _).2.1] at u8
  replace hHb1:=Lib.hid hHb1
  clear hHo hE1 hE0
  go_cut [7] from 27 to 98 (fun v wx=>v=.int .i64 ((min (128-r) l:Nat):Int)∧wx=W1)
  case first =>
   by_cases hlt:l<128-r
   ·have h2:(l:Int)<128-(r:Int):=by omega
    have hmn:min (128-r) l=l:=by omega
    replace hmn:=Lib.hid hmn
    go_wp2
    go_meet
    case rel=>exact ⟨by rw [hmn.out],rfl⟩
   have h2:¬ (l:Int)<128-(r:Int):=by omega
   have h3:128-(r:Int)≤(l:Int):=by omega
   have hmn:((min (128-r) l:Nat):Int)=128-(r:Int):=by omega
   replace hmn:=Lib.hid hmn
   go_wp2
   go_meet
   case rel=>exact ⟨by rw [hmn.out],rfl⟩
  case rest =>
   obtain ⟨hv7,hwc⟩:=hcut
   subst hv7 hwc
   obtain ⟨m,hm⟩:∃ m,m=min (128-r) l:=⟨_,rfl⟩
   rw [← hm]
   have hm1:m≤l:=by omega
   have hm2:m+r≤128:=by omega
   have hm3:m=l∨m+r=128:=by omega
   have hm4:(0:Int)≤(m:Int):=by omega
   have hm5:(m:Int)≤(l:Int):=by omega
   replace hm3:=Lib.hid hm3
   clear hm
   go_upto_if 41 with fail
   go_cut [6,41] from 42 to 98 (fun v6 _ wx=>MidW B gH T nn l sv w v6 wx)
   case first =>
    by_cases hz:r=0
    ·have hgt:decide (0<r)=false:=by simp [hz]
     have hM:=Lib.hid (show MidW B gH T nn l sv w (.slice pi l ci) wc from by
      subst hz
      refine ⟨0,pi,ci,p2,c2,by rw [Nat.sub_zero],Nat.zero_le _,by omega,by have:=hn128.out;omega,?_,?_,hHn.out,hE.out,?_⟩
      ·rw [show (nn+0) / 128=q by have:=hn128.out;omega];exact hHb1.out
      ·simpa [cB] using hHo1.out
      simpa using a3.out)
     go_wp2
     go_meet
     case rel=>exact hM.out
    have hgt:decide (0<r)=true:=by simp;omega
    have hmc:(m:Int)≤(ci:Int):=by omega
    have hXm:BX (gH::obv (.slice p2 r c2)) wc pi m (fun j=>T (128*q+r+j)):=fun h0=>by
     obtain ⟨g1,o1,e1,h1,h2,h3⟩:=a3.out (by omega)
     refine ⟨g1,o1,e1,h1,h2,fun j hj=>?_⟩
     rw [h3 j (by omega),hn128.out]
    have hszB:B≤wc.heap.size:=by have:=hE.out.size;omega
    have hs1:=run_slHi pi l ci m (by omega)
    have hs2:=run_slLo pi l ci m hm1
    generalize hpq:cutP pi ci m=pq at hs2
    replace hpq:=Lib.hid hpq
    go_wp2_with fail
    go_region_law ((refine step_appOB (T:=T) (q:=128*q) rfl rfl rfl (show World.ownsRow (World.drew _) _ _ _ _ _ _ from hHo1.out) rfl hXm.bat (by omega) hszB ?_;intro p5 c5 w5 hO5 hg5 hob5;have hb5:=hHb1.out.drew.grown hg5 (fun e=>hHn.out e.symm);have u85:=hb5.cell 8;rw [(hC_made _ _ _).2.1] at u85;have f85:=hb5.frozen 8;replace hO5:=Lib.hid hO5;replace hg5:=Lib.hid hg5;replace hob5:=Lib.hid hob5;replace hb5:=Lib.hid hb5))
    refine at_exit (fun W2 hW=>?_)
    have hx5:(Value.slice p5 (r+m) c5).ownBlock≠some gH:=fun e=>by
     rcases hob5.out with h | h
     ·exact hHn.out (h ▸ e)
     rw [h] at e
     have h1:wc.heap.size=gH:=Option.some.inj e
     have:=hHb1.out.lt
     omega
    have hgE:(World.grownBy w5 W2 (some gH)):=by rw [hW];exact grown_cell (b2g (Below.refl _ _)) _ _
    have hH2:Blk W2 gH 380 (hC (Sh.hsI T q) (.slice p5 (r+m) c5) ((nn:Int)+(l:Int))):=by rw [hW];exact hset8 hb5.out _
    have hE2:Ext (gH::obv (.slice p2 r c2)) wc (gH::obv (.slice p5 (r+m) c5)) W2:=by
     have e1:Ext (gH::obv (.slice p2 r c2)) wc (gH::obv (.slice p5 (r+m) c5)) w5:=by
      have hg:=hg5.out
      refine ⟨hg.os,hg.tape,hg.output,hg.size,fun k hk hn=>hg.block k hk (fun e=>hn (List.mem_cons_of_mem _ (mem_obv.2 e.symm))),fun k hk=>?_⟩
      rcases List.mem_cons.1 hk with h | h
      ·subst h;exact .inl (List.mem_cons_self ..)
      have h:=mem_obv.1 h
      rcases hob5.out with h2 | h2
      ·rw [h2] at h;exact .inl (List.mem_cons_of_mem _ (mem_obv.2 h))
      rw [h2] at h
      injection h with h
      exact .inr (Nat.le_of_eq h)
     exact e1.trans (Ext.grown hgE (fun g e=>by injection e with e;subst e;exact List.mem_cons_self ..) (fun _ h=>.inl h))
    have hO2:W2.ownsRow B 5 1 (.slice p5 (r+m) c5) (r+m) (cB (r+m) (fun j=>T (128*q+j))):=own_ext1 hO5.out (Ext.grown (S:=[gH]) (S':=[gH]) hgE (fun g e=>by injection e with e;subst e;exact List.mem_cons_self ..) (fun _ h=>.inl h)) (fun g e h=>by
     rw [List.mem_singleton] at h
     subst h
     exact hx5 e)
    have hEE:=Lib.hid (hE.out.trans hE2)
    have hX2:=Lib.hid (show BX _ W2 pq (l-m) (fun j=>T (nn+m+j)) by rw [← hpq.out];exact (a3.out.ext hE2).cut hm1 a2)
    clear hW hgE hE2 hE a3 hb5 u85 f85 hO5 hg5 hob5 hXm hs1 hs2 u8 hHb1 hHo1
    have u8:=hH2.cell 8
    rw [(hC_made _ _ _).2.1] at u8
    have f8:=hH2.frozen 8
    by_cases h128:r+m<128
    ·have hl128:((r:Int)+(m:Int))<128:=by omega
     go_wp2_with fail
     have hml:m=l:=hm3.out.resolve_right (by omega)
     refine ⟨⟨i+1,by omega,by simp,_,⟨?_,?_,hx5⟩,hEE.out⟩,by simp [intOf];omega⟩
     ·rw [← hmm.out,show (nn+l) / 128=q by have:=hn128.out;omega,Int.natCast_add]
      exact hH2
     rw [← hmm.out,show (nn+l) / 128=q by have:=hn128.out;omega,show (nn+l) % 128=r+m by have:=hn128.out;omega]
     exact hO2
    have hl128:¬ ((r:Int)+(m:Int))<128:=by omega
    have e128:r+m=128:=by omega
    rw [e128] at hO2 hH2 hx5 u8
    replace hEE:=hEE.out
    rw [e128] at hEE
    replace hEE:=Lib.hid hEE
    replace hX2:=hX2.out
    rw [e128] at hX2
    replace hX2:=Lib.hid hX2
    have hblk:Calls Tryz.prog 316 #[.pointer (some ⟨gH,0,none⟩),.slice p5 128 c5] W2.drew (PostB gH (Sh.hsI T q) (fun j=>T (128*q+j)) (.slice p5 128 c5) ((nn:Int)+(l:Int)) W2.drew):=by
     obtain ⟨g5,rfl,hB5,hlt5,hc5,hcell⟩:=own_some hO2 (by omega)
     exact block_c gH _ _ _ g5 0 c5 _ W2.drew hH2.drew hlt5 hc5 (fun j=>hT.out _) hcell (hS.out.below (hEE.out.old hB hge.out).drew hB3)
    replace hblk:=Lib.hid hblk
    replace hO2:=Lib.hid hO2
    replace hx5:=Lib.hid hx5
    clear hH2
    go_wp2_with fail
    refine wp_region_still_tail 7 (by kernel_rfl) (by kernel_rfl) ?_
    change wpStill _ _ (World.drew _) (fun a'=>wpList _ _ _ _ a' (World.drew _)) _ _
    simp only [List.take_succ_cons,List.take_zero,List.drop_succ_cons,List.drop_zero]
    repeat still_step
    refine wpStill_nil ?_
    go_wp2_with fail
    clear u8 f8
    refine hblk.out.mono ?_
    rintro e w3 ⟨rfl,hH3,hg3⟩
    replace hg3:W2.grownBy w3 (some gH):=⟨hg3.os,hg3.tape,hg3.output,hg3.size,hg3.block⟩
    clear hblk
    have hs0:=run_slHi p5 128 c5 0 (Nat.zero_le _)
    rw [show ((0:Nat):Int)=0 from rfl] at hs0
    have u8:=hH3.cell 8
    rw [(hC_made _ _ _).2.1] at u8
    have f8:=hH3.frozen 8
    replace hH3:=Lib.hid hH3
    replace hg3:=Lib.hid hg3
    go_wp2_with fail
    refine at_met (fun W4 hW=>?_)
    have hg4:W2.grownBy W4 (some gH):=by rw [hW];exact grown_cell hg3.out _ _
    have hH4:=hset8 hH3.out (.slice p5 0 c5)
    rw [← hW] at hH4
    clear hW hH3 hg3 hs0 u8 f8
    have hx6:(Value.slice p5 0 c5).ownBlock≠some gH:=by rw [own_len p5 0 128 c5];exact hx5.out
    have hE3:Ext (gH::obv (.slice p5 128 c5)) W2 (gH::obv (.slice p5 0 c5)) W4:=Ext.grown hg4 (fun g e=>by injection e with e;subst e;exact List.mem_cons_self ..) (fun _ h=>.inl (by rwa [obv_len p5 0 128 c5] at h))
    have hM:=Lib.hid (show MidW B gH T nn l sv w (.slice pq (l-m) (ci-m)) W4 from by
     refine ⟨m,pq,ci-m,p5,c5,rfl,hm1,by omega,by have:=hn128.out;omega,?_,?_,hx6,hEE.out.trans hE3,hX2.out.ext hE3⟩
     ·rw [show (nn+m) / 128=q+1 by have:=hn128.out;omega]
      exact hH4
     exact own_none (own_ext1 hO2.out (Ext.grown (S:=[gH]) (S':=[gH]) hg4 (fun g e=>by injection e with e;subst e;exact List.mem_cons_self ..) (fun _ h=>.inl h)) (fun g e h=>by
      rw [List.mem_singleton] at h
      subst h
      exact hx5.out e)))
    go_meet
    case rel=>exact hM.out
   case rest =>
    replace hcut:=Lib.hid hcut
    clear hE a3 hHb1 hHo1 hHn u8 hgS
    go_wp2_with fail
    go_loopw [6] (fun q wr=>MidW B gH T nn l sv w q wr) (fun q _=>match q with | .slice _ n _=>n | _=>0)
    case atStart=>exact hcut.out
    case round =>
     clear hcut
     obtain ⟨y,p6,c6,p7,c7,rfl,hy,hc6,hy128,hHc,hOc,hxc,hEc,hXc⟩:=hrel
     obtain ⟨x,hx⟩:∃ x,x=l-y:=⟨_,rfl⟩
     rw [← hx] at hc6 hXc ⊢
     have hxl:x≤l:=by omega
     replace hx:=Lib.hid hx
     have hk8:128*((nn+y) / 128)=nn+y:=by omega
     obtain ⟨kk,hkk⟩:∃ kk,kk=(nn+y) / 128:=⟨_,rfl⟩
     rw [← hkk] at hHc hk8
     replace hk8:=Lib.hid hk8
     replace hy128:=Lib.hid hy128
     replace hkk:=Lib.hid hkk
     have u8:=hHc.cell 8
     rw [(hC_made _ _ _).2.1] at u8
     have f8:=hHc.frozen 8
     replace hHc:=Lib.hid hHc
     replace hOc:=Lib.hid hOc
     replace hxc:=Lib.hid hxc
     replace hEc:=Lib.hid hEc
     replace hXc:=Lib.hid hXc
     have hx1:(x:Int)≤100000000:=by omega
     have hx0:(0:Int)≤(x:Int):=by omega
     by_cases hge128:128≤x
     ·have h1:(128:Int)≤(x:Int):=by omega
      have h2:(128:Int)≤(c6:Int):=by omega
      have hblk:Calls Tryz.prog 316 #[.pointer (some ⟨gH,0,none⟩),.slice p6 128 c6] wr.drew (PostB gH (Sh.hsI T kk) (fun j=>T (128*kk+j)) (.slice p7 0 c7) ((nn:Int)+(l:Int)) wr.drew):=by
       obtain ⟨g6,o6,rfl,hlt6,hS6,hcell6⟩:=hXc.out (by omega)
       rw [hk8.out]
       exact block_c gH _ _ _ g6 o6 c6 _ wr.drew hHc.out.drew hlt6 (by omega) (fun j=>hT.out _) (fun j hj=>hcell6 j (by omega)) (hS.out.below (hEc.out.old hB hge.out).drew hB3)
      replace hblk:=Lib.hid hblk
      have hs1:=run_slHi p6 x c6 128 (by omega)
      rw [show ((128:Nat):Int)=128 from rfl] at hs1
      clear u8 f8
      go_wp2_with fail
      refine wp_region_still_tail 5 (by kernel_rfl) (by kernel_rfl) ?_
      change wpStill _ _ (World.drew _) (fun a'=>wpList _ _ _ _ a' (World.drew _)) _ _
      simp only [List.take_succ_cons,List.take_zero,List.drop_succ_cons,List.drop_zero]
      repeat still_step
      refine wpStill_nil ?_
      go_wp2_with fail
      clear hs1
      refine hblk.out.mono ?_
      rintro e w3 ⟨rfl,hH3,hg3⟩
      replace hg3:wr.grownBy w3 (some gH):=⟨hg3.os,hg3.tape,hg3.output,hg3.size,hg3.block⟩
      clear hblk
      have hs2:=run_slLo p6 x c6 128 hge128
      rw [show ((128:Nat):Int)=128 from rfl] at hs2
      have hE3:Ext (gH::obv (.slice p7 0 c7)) wr (gH::obv (.slice p7 0 c7)) w3:=Ext.grown hg3 (fun g e=>by injection e with e;subst e;exact List.mem_cons_self ..) (fun _ h=>.inl h)
      have hM:=Lib.hid (show MidW B gH T nn l sv w (.slice (cutP p6 c6 128) (x-128) (c6-128)) w3 from by
       have hx:=hx.out
       have hk8:=hk8.out
       refine ⟨y+128,cutP p6 c6 128,c6-128,p7,c7,by rw [show l-(y+128)=x-128 by omega],by omega,by omega,by omega,?_,?_,hxc.out,hEc.out.trans hE3,?_⟩
       ·rw [show (nn+(y+128)) / 128=kk+1 by omega]
        exact hH3
       ·exact own_ext1 hOc.out (Ext.grown (S:=[gH]) (S':=[gH]) hg3 (fun g e=>by injection e with e;subst e;exact List.mem_cons_self ..) (fun _ h=>.inl h)) (fun g e h=>by
         rw [List.mem_singleton] at h
         subst h
         exact hxc.out e)
       have h:=(hXc.out.ext hE3).cut hge128 hc6
       rw [show l-(y+128)=x-128 by omega,show nn+(y+128)=nn+y+128 by omega]
       exact h)
      clear hH3 hg3 hE3
      go_wp2_with fail
      exact ⟨hM.out,by dsimp only;omega⟩
     have h1:¬ (128:Int)≤(x:Int):=by omega
     have hO0:wr.ownsRow B 5 1 (.slice p7 0 c7) 0 (cB 0 (fun j=>T (nn+y+j))):=by simpa [cB] using hOc.out
     replace hO0:=Lib.hid hO0
     have hszB:B≤wr.heap.size:=by have:=hEc.out.size;omega
     go_wp2_with (refine wpList_appOB (T:=T) (q:=nn+y) (v:=.slice p7 0 c7) (n:=0) (m:=x) rfl rfl rfl hO0.out rfl hXc.out.bat (by omega) hszB ?_;intro v5 w5 hO5 hg5 hob5;obtain ⟨p5,c5,rfl⟩:=own_slB hO5;rw [Nat.zero_add] at hO5 hob5;have hb5:=hHc.out.grown hg5 (fun e=>hxc.out e.symm);have u85:=hb5.cell 8;rw [(hC_made _ _ _).2.1] at u85;have f85:=hb5.frozen 8;replace hO5:=Lib.hid hO5;replace hg5:=Lib.hid hg5;replace hob5:=Lib.hid hob5;replace hb5:=Lib.hid hb5)
     generalize hW:w5.setCell ⟨gH,8,none⟩ (.slice p5 x c5)=W6
     replace hW:=hW.symm
     have hx:=hx.out
     have hk8:=hk8.out
     have hy128:=hy128.out
     have hx5:(Value.slice p5 x c5).ownBlock≠some gH:=fun e=>by
      rcases hob5.out with h | h
      ·exact hxc.out (h ▸ e)
      rw [h] at e
      have h1:wr.heap.size=gH:=Option.some.inj e
      have:=hHc.out.lt
      omega
     have hg6:w5.grownBy W6 (some gH):=by rw [hW];exact grown_cell (b2g (Below.refl _ _)) _ _
     have hH6:Blk W6 gH 380 (hC (Sh.hsI T kk) (.slice p5 x c5) ((nn:Int)+(l:Int))):=by rw [hW];exact hset8 hb5.out _
     have hE6:Ext (gH::obv (.slice p7 0 c7)) wr (gH::obv (.slice p5 x c5)) W6:=by
      have e1:Ext (gH::obv (.slice p7 0 c7)) wr (gH::obv (.slice p5 x c5)) w5:=by
       have hg:=hg5.out
       refine ⟨hg.os,hg.tape,hg.output,hg.size,fun k hk hn=>hg.block k hk (fun e=>hn (List.mem_cons_of_mem _ (mem_obv.2 e.symm))),fun k hk=>?_⟩
       rcases List.mem_cons.1 hk with h | h
       ·subst h;exact .inl (List.mem_cons_self ..)
       have h:=mem_obv.1 h
       rcases hob5.out with h2 | h2
       ·rw [h2] at h;exact .inl (List.mem_cons_of_mem _ (mem_obv.2 h))
       rw [h2] at h
       injection h with h
       exact .inr (Nat.le_of_eq h)
      exact e1.trans (Ext.grown hg6 (fun g e=>by injection e with e;subst e;exact List.mem_cons_self ..) (fun _ h=>.inl h))
     have hO6:W6.ownsRow B 5 1 (.slice p5 x c5) x (cB x (fun j=>T (nn+y+j))):=own_ext1 hO5.out (Ext.grown (S:=[gH]) (S':=[gH]) hg6 (fun g e=>by injection e with e;subst e;exact List.mem_cons_self ..) (fun _ h=>.inl h)) (fun g e h=>by
      rw [List.mem_singleton] at h
      subst h
      exact hx5 e)
     refine ⟨⟨i+1,by omega,by simp,_,⟨?_,?_,hx5⟩,hEc.out.trans hE6⟩,by simp [intOf];omega⟩
     ·rw [← hmm.out,show (nn+l) / 128=kk by omega,Int.natCast_add]
      exact hH6
     rw [← hmm.out,show (nn+l) / 128=kk by omega,show (nn+l) % 128=x by omega,hk8]
     exact hO6
end Go.Proofs.YtnopjabcdloepaaGreatDoor
