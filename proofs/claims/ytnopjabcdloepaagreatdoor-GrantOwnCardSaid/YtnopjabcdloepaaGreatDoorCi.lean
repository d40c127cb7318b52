import Derived.Test.YtnopjabcdloepaaGreatDoorCh
namespace Go.Proofs.YtnopjabcdloepaaGreatDoor
open Go Go.RowKit
def Parts (w:World) (v:Value) (cs:List Value):Prop:=(v=.slice none 0 0∧cs=[])∨∃ g o c,v=.slice (some ⟨g,o,none⟩) cs.length c∧0<cs.length∧cs.length≤c∧g<w.heap.size∧∀ j u,cs[j]?=some u→w.cell? ⟨g,o+j,none⟩=some u
theorem Parts.below {w w':World} {v:Value} {cs:List Value} (h:Parts w v cs) (hb:Below w.heap.size w w'):Parts w' v cs:=by
 rcases h with h | ⟨g,o,c,e,h0,h1,h2,h3⟩
 ·exact .inl h
 exact .inr ⟨g,o,c,e,h0,h1,Nat.lt_of_lt_of_le h2 hb.size,fun j u hu=>(hb.cell (p:=⟨g,o+j,none⟩) h2).trans (h3 j u hu)⟩
theorem eqnilP_some (ad:Addr) (n c:Nat) (w:World):(binOp .eql 42 (.slice (some ad) n c) (.slice none 0 0)).run Tryz.prog w=.ok (.bool false) w:=by kernel_rfl
theorem eqnilP_none (w:World):(binOp .eql 42 (.slice none 0 0) (.slice none 0 0)).run Tryz.prog w=.ok (.bool true) w:=by kernel_rfl
def PostPl (cs:List Value) (w:World) (e:Ending) (w':World):Prop:=∃ v,e=.returned v∧w'.ownsRow w.heap.size 22 1 v cs.length cs∧(cs=[]→v=.slice none 0 0)∧Below w.heap.size w w'
set_option maxRecDepth 20000 in
set_option maxHeartbeats 2000000 in
theorem cloneP_c (v:Value) (cs:List Value) (h1:∀ u∈cs,u.oneCell'=true) (hn:cs.length≤1000000) (w:World) (h:Parts w v cs):Calls Tryz.prog 265 #[v] w (PostPl cs w):=by
 rcases h with ⟨rfl,rfl⟩ | ⟨g,o,c,rfl,h0,hc,hg,hcell⟩
 ·have he:=eqnilP_none
  have hP:=Lib.hid (show PostPl [] w (.returned (.slice none 0 0)) w from ⟨_,rfl,⟨rfl,.inl ⟨rfl,rfl⟩⟩,fun _=>rfl,Below.refl _ _⟩)
  go_enter Tryz.func265,Tryz.ntmps265
  go_wp2
  go_returns
  exact hP.out
 obtain ⟨i0,hi,hz0,hz1,hz2⟩:=info3 p_info
 have hb0:Below w.heap.size w (w.alloc (.cells #[] 22)):=(Below.refl _ _).alloc (Nat.le_refl _) _
 have hO0:(w.alloc (.cells #[] 22)).ownsRow w.heap.size 22 1 (.slice (some ⟨w.heap.size,0,none⟩) 0 0) 0 []:=⟨rfl,.inr ⟨_,0,#[],rfl,Nat.le_refl _,heap_alloc_new w _,Nat.le_refl _,Nat.zero_le _,rfl,rfl⟩⟩
 have hnews:∀ j u,cs[j]?=some u→(w.alloc (.cells #[] 22)).cell? ((⟨g,o,none⟩:Addr).add j)=some u:=fun j u hu=>by
  rw [add_o]
  exact (hb0.cell (p:=⟨g,o+j,none⟩) hg).trans (hcell j u hu)
 have he:=eqnilP_some ⟨g,o,none⟩ cs.length c
 have hx:∀ v2 w2,(Builtin.append_ #[42,42] 42 #[.slice (some ⟨w.heap.size,0,none⟩) 0 0,.slice (some ⟨g,o,none⟩) cs.length c]).run Tryz.prog (w.alloc (.cells #[] 22))=.ok v2 w2→PostPl cs w (.returned v2) w2:=fun v2 w2 hr=>by
  obtain ⟨v',w',hr',hO,hgr,_⟩:=run_append_own_at (P:=Tryz.prog) _ w.heap.size 42 42 22 i0 _ 1 24 ps_under hi hz0 hz1 hz2 rfl (by decide) _ 0 [] hO0 ⟨g,o,none⟩ cs.length c cs (by omega) hnews h1 (by unfold maxLen;omega) (by omega) hb0.size
  rw [hr'] at hr
  injection hr with e1 e2
  subst e1 e2
  refine ⟨_,rfl,by simpa using hO,fun e=>absurd h0 (by rw [e];decide),hb0.grown hgr hb0.size (fun k hk=>(hO0.lt k hk).1)⟩
 obtain ⟨v3,w3,hr3⟩:∃ v2 w2,(Builtin.append_ #[42,42] 42 #[.slice (some ⟨w.heap.size,0,none⟩) 0 0,.slice (some ⟨g,o,none⟩) cs.length c]).run Tryz.prog (w.alloc (.cells #[] 22))=.ok v2 w2:=by
  obtain ⟨v',w',hr',_⟩:=run_append_own_at (P:=Tryz.prog) _ w.heap.size 42 42 22 i0 _ 1 24 ps_under hi hz0 hz1 hz2 rfl (by decide) _ 0 [] hO0 ⟨g,o,none⟩ cs.length c cs (by omega) hnews h1 (by unfold maxLen;omega) (by omega) hb0.size
  exact ⟨_,_,hr'⟩
 have hP:=Lib.hid (hx _ _ hr3)
 clear hx hO0 hnews hcell hb0
 go_enter Tryz.func265,Tryz.ntmps265
 go_wp2_with (at_builtin;refine Lib.wpList_append_run _ rfl _ _ _ _ rfl _ _ rfl rfl _ _ hr3 ?_)
 go_returns
 exact hP.out
def PostFr (B:Nat) (cs:List Value) (w:World) (e:Ending) (w':World):Prop:=∃ g c,e=.returned (.slice (some ⟨g,0,none⟩) cs.length c)∧B≤g∧g<w'.heap.size∧cs.length≤c∧(∀ j u,cs[j]?=some u→w'.cell? ⟨g,0+j,none⟩=some u)∧Below B w w'
theorem two1 (W:World) (g:Nat) (u:Value) (cs:List Value) (hs:∀ j,j<cs.length+1→(W.cell? ⟨g,j,none⟩).isSome=true) (j:Nat) (x:Value) (hx:(u::cs)[j]?=some x):((W.setCells g 1 cs).setCells g 0 [u]).cell? ⟨g,j,none⟩=some x:=by
 have hi:∀ k,k<cs.length+1→((W.setCells g 1 cs).cell? ⟨g,k,none⟩).isSome=true:=fun k hk=>isSome_setCells g cs 1 W (fun j hj=>hs _ (by omega)) k (hs k hk)
 cases j with
 | zero =>
  have h:=World.cell?_setCells_in g [u] 0 (W.setCells g 1 cs) (fun j hj=>by rw [Nat.zero_add];exact hi j (by simp at hj;omega)) 0 (by simp)
  simp at h hx
  rw [h,hx]
 | succ j =>
  have hj:j<cs.length:=by have:=(List.getElem?_eq_some_iff.1 hx).1;simpa using this
  rw [World.cell?_setCells_out g [u] 0 _ _ (fun _ _=>.inr (by simp))]
  have h:=World.cell?_setCells_in g cs 1 W (fun j hj=>hs _ (by omega)) j hj
  rw [Nat.add_comm 1 j] at h
  rw [h]
  rw [List.getElem?_cons_succ,List.getElem?_eq_getElem hj] at hx
  exact hx
theorem two2 (W:World) (g:Nat) (u:Value) (cs:List Value) (hs:∀ j,j<cs.length+1→(W.cell? ⟨g,j,none⟩).isSome=true) (j:Nat) (x:Value) (hx:(u::cs)[j]?=some x):((W.setCells g 0 [u]).setCells g 1 cs).cell? ⟨g,j,none⟩=some x:=by
 have hi:∀ k,k<cs.length+1→((W.setCells g 0 [u]).cell? ⟨g,k,none⟩).isSome=true:=fun k hk=>isSome_setCells g [u] 0 W (fun j hj=>hs _ (by simp at hj;omega)) k (hs k hk)
 cases j with
 | zero =>
  rw [World.cell?_setCells_out g cs 1 _ _ (fun _ _=>.inl (by simp))]
  have h:=World.cell?_setCells_in g [u] 0 W (fun j hj=>hs _ (by simp at hj;omega)) 0 (by simp)
  simp at h hx
  rw [h,hx]
 | succ j =>
  have hj:j<cs.length:=by have:=(List.getElem?_eq_some_iff.1 hx).1;simpa using this
  have h:=World.cell?_setCells_in g cs 1 (W.setCells g 0 [u]) (fun j hj=>hi _ (by omega)) j hj
  rw [Nat.add_comm 1 j] at h
  rw [h]
  rw [List.getElem?_cons_succ,List.getElem?_eq_getElem hj] at hx
  exact hx
theorem front_c (B:Nat) (v:Value) (u:Value) (cs:List Value) (h1:∀ u∈cs,u.oneCell'=true) (hu1:u.oneCell'=true) (hn:cs.length≤1000000) (w:World) (hB:B≤w.heap.size) (hO:w.ownsRow B 22 1 v cs.length cs) (hnil:cs=[]→v=.slice none 0 0) (vb:Nat) (hvb:Blk w vb 22 #[u]) (hne:v.ownBlock≠some vb) :
  Calls Tryz.prog 264 #[v,.int .i64 0,.slice (some ⟨vb,0,none⟩) 1 1] w (PostFr B (u::cs) w):=by
 have hvs:∀ j x,[u][j]?=some x→w.cell? ⟨vb,0+j,none⟩=some x:=fun j x hx=>by
  rw [Nat.zero_add,hvb.cell j]
  simpa using hx
 have h1v:∀ x∈[u],x.oneCell'=true:=fun x hx=>by rw [List.mem_singleton] at hx;exact hx ▸ hu1
 by_cases he:cs=[]
 ·have hv:=hnil he
  subst he hv
  refine (insP_end_grow none 0 0 vb 0 1 1 [] [u] w (by decide) (by decide) (by decide) (by decide) rfl rfl (fun _=>rfl) (fun a h=>by cases h) hvs h1v).mono ?_
  rintro e w' ⟨rfl,rfl⟩
  refine ⟨_,_,rfl,hB,?_,grownCap_ge w _ _ _,fun j x hx=>?_,?_⟩
  ·show w.heap.size<(World.alloc _ _).heap.size
   simp
  ·rw [Nat.zero_add,World.cell?_alloc_at _ _ _ _ (show w.heap.size=w.drew.heap.size from rfl)]
   rw [Array.getElem?_append_left (by have:=(List.getElem?_eq_some_iff.1 hx).1;simpa using this)]
   simpa using hx
  exact (Below.refl B w).drew.alloc hB _
 rcases hO.2 with ⟨_,h0⟩ | ⟨g,cap,cur,rfl,hBg,hcur,hnc,hcm,hsz,htk⟩
 ·exact absurd (List.length_eq_zero_iff.1 h0) he
 have hl0:0<cs.length:=List.length_pos_iff.2 he
 have hgb:g≠vb:=fun e=>hne (by rw [e];rfl)
 have hcs:∀ j x,cs[j]?=some x→w.cell? ⟨g,0+j,none⟩=some x:=fun j x hx=>by
  have hj:j<cs.length:=(List.getElem?_eq_some_iff.1 hx).1
  rw [Nat.zero_add,cell_of_row w g j cur _ (0,0) hcur,← Array.getElem?_toList]
  rw [Nat.mul_one] at htk
  rw [← htk,List.getElem?_take_of_lt hj] at hx
  exact hx
 by_cases hroom:cs.length+1≤cap
 ·refine (insP_shift g 0 cs.length cap 0 vb 0 1 1 cs [u] w hl0 (by decide) hroom (by unfold maxLen at hcm;omega) (fun e=>hgb e.symm) rfl rfl hcs (fun j hj=>?_) (fun j hj=>frozen_of_row w g _ cur _ hcur) hvs h1 h1v 22 22 1 cap (by simp [World.shape?,show w.heap[vb]?=_ from hvb]) (by simp [World.shape?,hcur,hsz]) (by omega) (hvb.frozen 0) (hvb.frozen 1)).mono ?_
  ·rw [Nat.zero_add,cell_of_row w g j cur _ (0,0) hcur,Array.getElem?_eq_getElem (by omega)]
   rfl
  rintro e w' ⟨rfl,rfl⟩
  have hg1:w.grownBy ((w.drew.setCells g (0+(0+1)) (cs.drop 0)).setCells g (0+0) [u]) (some g):=by
   have k1:=grown_setCells g (cs.drop 0) (0+(0+1)) w.drew
   have k2:=grown_setCells g [u] (0+0) (w.drew.setCells g (0+(0+1)) (cs.drop 0))
   exact ⟨k2.os.trans k1.os,k2.tape.trans k1.tape,k2.output.trans k1.output,Nat.le_trans k1.size k2.size,fun k hk hn=>(k2.block k (Nat.lt_of_lt_of_le hk k1.size) hn).trans (k1.block k hk hn)⟩
  refine ⟨g,cap,rfl,hBg,Nat.lt_of_lt_of_le (Array.getElem?_eq_some_iff.1 hcur).1 hg1.size,hroom,fun j x hx=>?_,(Below.refl B w).grown hg1 hB (fun k hk=>by injection hk with hk;omega)⟩
  simp only [Nat.zero_add,List.drop_zero]
  exact two1 w.drew g u cs (fun j hj=>by
   show (w.cell? ⟨g,j,none⟩).isSome=true
   rw [cell_of_row w g j cur _ (0,0) hcur,Array.getElem?_eq_getElem (by omega)]
   rfl) j x hx
 refine (insP_grow g 0 cs.length cap 0 vb 0 1 1 cs [u] w hl0 (by decide) hnc (by omega) (by omega) rfl rfl hcs hvs h1 h1v).mono ?_
 rintro e w' ⟨rfl,rfl⟩
 refine ⟨_,_,rfl,hB,?_,grownCap_ge w _ _ _,fun j x hx=>?_,?_⟩
 ·refine Nat.lt_of_lt_of_le ?_ (grown_setCells _ _ _ _).size
  show w.heap.size<(World.setCells _ _ _ _).heap.size
  refine Nat.lt_of_lt_of_le ?_ (grown_setCells _ _ _ _).size
  show w.heap.size<(World.alloc _ _).heap.size
  simp
 ·simp only [Nat.zero_add,List.drop_zero,drew_setCells]
  refine two2 (w.alloc _).drew.drew w.heap.size u cs (fun j hj=>?_) j x hx
  show ((w.alloc _).cell? ⟨w.heap.size,j,none⟩).isSome=true
  rw [World.cell?_alloc_at _ _ _ _ rfl,Array.getElem?_eq_getElem (by simp [Builtin.zeroCells,Value.cells];omega)]
  rfl
 refine Below.grown ?_ (grown_setCells _ _ _ _) ?_ (fun k hk=>by injection hk with hk;omega)
 ·refine (Below.grown ?_ (grown_setCells _ _ _ _) ?_ (fun k hk=>by injection hk with hk;omega)).drew
  ·exact ((Below.refl B w).alloc hB _).drew
  show B≤(World.alloc _ _).heap.size
  simp
  omega
 refine Nat.le_trans ?_ (grown_setCells _ _ _ _).size
 show B≤(World.alloc _ _).heap.size
 simp
 omega
end Go.Proofs.YtnopjabcdloepaaGreatDoor
