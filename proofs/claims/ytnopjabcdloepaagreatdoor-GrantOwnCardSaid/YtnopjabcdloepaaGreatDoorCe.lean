import Derived.Test.YtnopjabcdloepaaGreatDoorCd
import Derived.Test.YtnopjabcdloepaaGreatDoorZb
namespace Go.Proofs.YtnopjabcdloepaaGreatDoor
open Go.RowKit
section
variable {ops:Array Oper} {rest:List Oper} {o:Oper} {a:Act} {w:World} {Q:Exit→Act→World→Prop}
theorem hash_size:(Tryz.prog.info? 380).map (·.size)=some 11:=by kernel_rfl
theorem hC_size (V:Nat→Int) (sv:Value) (N:Int):(hC V sv N).size=11:=by
 unfold hC
 rw [Array.size_append,wA_size]
 rfl
theorem hash_under:∃ fs,Tryz.prog.underlying 380=some (.struct fs):=by
 have h:(Tryz.prog.underlying 380).map (fun d=>match d with | .struct _=>true | _=>false)=some true:=by kernel_rfl
 cases hq:Tryz.prog.underlying 380 with
 | none=>rw [hq] at h;cases h
 | some d =>
  rw [hq] at h
  cases d <;> first | exact ⟨_,rfl⟩ | (simp at h)
theorem hC_one (V:Nat→Int) {sv:Value} (N:Int) (h:sv.oneCell'=true):(hC V sv N).all (·.oneCell')=true:=by
 unfold hC
 rw [Array.all_append,wA_one,Bool.true_and]
 simp [h]
 exact ⟨rfl,rfl⟩
theorem ldH (hgd:o.guard=none) {x:Operand} (ho:o.op=.load 380 x) {g:Nat} (hx:a.eval x=.pointer (some ⟨g,0,none⟩)) {V:Nat→Int} {sv:Value} {N:Int} (hg:Blk w g 380 (hC V sv N)) (h:wpList Tryz.prog ops Q rest (a.put o.dst (.agg (hC V sv N))) w):wpList Tryz.prog ops Q (o::rest) a w:=by
 obtain ⟨fs,hd⟩:=hash_under
 exact wpList_load_row hgd _ x ho g hx _ (hC V sv N) (0,0) _ hg hd rfl (by rw [hash_size,hC_size]) h
theorem stH (hgd:o.guard=none) {x y:Operand} (ho:o.op=.store 380 x y) {g:Nat} {ty:TypeId} {V:Nat→Int} {p:Option Addr} {l c:Nat} {N:Int} {old:Array Value} (hx:a.eval x=.pointer (some ⟨g,0,none⟩)) (hy:a.eval y=.agg (hC V (.slice p l c) N)) (hg:Blk w g ty old) (hs:old.size=11)
  (h:∀ w',Blk w' g ty (hC V (.slice p l c) N)→w.grownBy w' (some g)→wpList Tryz.prog ops Q rest (a.put o.dst undef) w'):wpList Tryz.prog ops Q (o::rest) a w :=
 wpList_store_blk hgd _ x y ho g ty old _ hx hy hg (by rw [hs,hC_size]) (by rw [hash_size,hC_size]) (hC_one _ _ rfl) (fun w' h1 h2 _=>h w' h1 h2)
end
theorem eqnilB_none (w:World):(binOp .eql 22 (.slice none 0 0) (.slice none 0 0)).run Tryz.prog w=.ok (.bool true) w:=by kernel_rfl
def PostCl (n:Nat) (f:Nat→Int) (w:World) (e:Ending) (w':World):Prop:=∃ p c,e=.returned (.slice p n c)∧w'.ownsRow w.heap.size 5 1 (.slice p n c) n (cB n f)∧Below w.heap.size w w'
set_option maxRecDepth 20000 in
set_option maxHeartbeats 2000000 in
theorem cloneN_c (w:World):Calls Tryz.prog 126 #[.slice none 0 0] w fun e w'=>e=.returned (.slice none 0 0)∧w=w':=by
 have he:=eqnilB_none
 go_enter Tryz.func126,Tryz.ntmps126
 go_wp2
 go_returns
 exact ⟨rfl,rfl⟩
theorem cloneO_c (B:Nat) (p:Option Addr) (n c:Nat) (f:Nat→Int) (hn:n≤1000000) (w:World) (h:w.ownsRow B 5 1 (.slice p n c) n (cB n f)):Calls Tryz.prog 126 #[.slice p n c] w (PostCl n f w):=by
 rcases h.2 with ⟨e,_⟩ | ⟨g,cap,cur,e,h1,h2,h3,h4,h5,h6⟩
 ·injection e with e1 e2 e3
  subst e1 e2 e3
  refine (cloneN_c w).mono ?_
  rintro e w' ⟨rfl,rfl⟩
  exact ⟨none,0,rfl,⟨rfl,.inl ⟨rfl,rfl⟩⟩,Below.refl _ _⟩
 injection e with e1 e2 e3
 subst e1 e3
 have hR:RowB w g n _ f:=⟨cur,h2,h3,h4,by omega,by rw [← h6,Nat.mul_one]⟩
 refine (cloneB_c g 0 n _ f hn w hR.lt (fun j hj=>by rw [Nat.zero_add];exact hR.cell j hj)).mono ?_
 rintro e w' ⟨g',c',rfl,hg',hR',hb⟩
 obtain ⟨cur',k1,k2,k3,k4,k5⟩:=hR'
 exact ⟨_,c',rfl,⟨by rw [cB_len,Nat.mul_one],.inr ⟨g',c',cur',rfl,hg',k1,k2,k3,by omega,by rw [Nat.mul_one,k5]⟩⟩,hb⟩
def PostCy (T:Nat→Int) (n:Nat) (w:World) (e:Ending) (w':World):Prop:=∃ sv,e=.returned (.pointer (some ⟨w.heap.size,0,none⟩))∧HS w.heap.size w' w.heap.size T n sv∧Below w.heap.size w w'
set_option maxRecDepth 20000 in
set_option maxHeartbeats 2000000 in
theorem hcopy_c (B gH:Nat) (T:Nat→Int) (n:Nat) (sv:Value) (w:World) (hH:HS B w gH T n sv):Calls Tryz.prog 317 #[.pointer (some ⟨gH,0,none⟩)] w (PostCy T n w):=by
 obtain ⟨p,c,rfl⟩:=own_slB hH.own
 have hth:=there_c gH _ _ _ w hH.blk
 replace hth:=Lib.hid hth
 replace hH:=Lib.hid hH
 go_enter Tryz.func317,Tryz.ntmps317
 go_wp2_with (first | (refine ldH rfl rfl rfl hH.out.blk ?_) | (refine stH rfl rfl rfl rfl (Blk.new _ _ _) rfl ?_;intro w1 hC1 hg1;have hb1:Below w.heap.size w w1:=((Below.refl _ _).alloc (Nat.le_refl _) _).grown hg1 (Nat.le_of_lt (by simp)) (fun k hk=>by injection hk with hk;omega);have u8:=(hH.out.blk.below hb1).cell 8;rw [(hC_made _ _ _).2.1] at u8) | (refine hth.out.mono ?_;rintro e w1 ⟨rfl,rfl⟩))
 refine (cloneO_c B p (n % 128) c (fun j=>T (128*(n / 128)+j)) (by omega) w1 (own_ext1 hH.out.own (Ext.below (S:=[]) hb1) (fun _ _=>by simp))).mono ?_
 rintro e w2 ⟨p2,c2,rfl,hO2,hb2⟩
 have hC2:=hC1.below hb2
 clear u8
 have f8:=hC2.frozen 8
 have u8:=hC2.cell 8
 rw [(hC_made _ _ _).2.1] at u8
 have hP:=Lib.hid (show PostCy T n w (.returned (.pointer (some ⟨w.heap.size,0,none⟩))) (w2.setCell ⟨w.heap.size,8,none⟩ (.slice p2 (n % 128) c2)) from by
  have hx:∀ g,(Value.slice p2 (n % 128) c2).ownBlock=some g→w.heap.size<g:=fun g e=>by
   have h1:=(hO2.lt g e).1
   have h2:=hC1.lt
   omega
  refine ⟨.slice p2 (n % 128) c2,rfl,⟨hset8 hC2 _,?_,fun e=>by have:=hx _ e;omega⟩,?_⟩
  ·have h2:=hC1.lt
   have h3:w2.ownsRow w.heap.size 5 1 (.slice p2 (n % 128) c2) (n % 128) (cB (n % 128) (fun j=>T (128*(n / 128)+j))):=by
    refine ⟨hO2.1,hO2.2.imp id ?_⟩
    rintro ⟨g,cap,cur,e,k1,k2⟩
    exact ⟨g,cap,cur,e,by omega,k2⟩
   exact own_ext1 h3 (Ext.grown (S:=[w.heap.size]) (S':=[w.heap.size]) (grown_cell (b2g (Below.refl _ _)) _ _) (fun g e=>by injection e with e;subst e;exact List.mem_cons_self ..) (fun _ h=>.inl h)) (fun g e h=>by
    rw [List.mem_singleton] at h
    have:=hx g e
    omega)
  exact (hb1.trans (hb2.mono hb1.size)).setCell (p:=⟨w.heap.size,8,none⟩) (Nat.le_refl _) _)
 go_wp2
 go_returns
 exact hP.out
end Go.Proofs.YtnopjabcdloepaaGreatDoor
