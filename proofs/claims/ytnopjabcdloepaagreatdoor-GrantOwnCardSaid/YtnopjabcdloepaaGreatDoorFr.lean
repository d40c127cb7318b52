import Derived.Test.YtnopjabcdloepaaGreatDoorYd
namespace Fe
def r0E (u v:E):E:=mulE (mulE u (mulE (mulE v v) v)) (pw (mulE u (mulE (mulE (mulE (mulE v v) v) (mulE (mulE v v) v)) v)) 252 3 252)
def isE (r v:E):E:=mulE (mulE r r) v
def finE (r:E):E:=if (canon r).a0 % 2=1 then subE ⟨0,0,0,0,0⟩ r else r
theorem k2_ex:∃ x:E,x=pw ⟨2,0,0,0,0⟩ 253 5 253:=⟨_,rfl⟩
noncomputable def k2:E:=Classical.choose k2_ex
theorem k2_eq:k2=pw ⟨2,0,0,0,0⟩ 253 5 253:=Classical.choose_spec k2_ex
theorem k2_w:W k2:=by rw [k2_eq];exact pw_w _ _ _ _
noncomputable def turnE (r:E):E:=mulE r k2
end Fe
namespace Fe
theorem canon_d (e:E):D (canon e):=by
 unfold canon canonC last
 simp only [D]
 omega
end Fe
namespace Go.Proofs.YtnopjabcdloepaaGreatDoor
open Go.RowKit
noncomputable def rootE (u v:Fe.E):Fe.E :=
 if eqE (Fe.canon (Fe.isE (Fe.r0E u v) v)) (Fe.canon u)=true then Fe.finE (Fe.r0E u v)
 else if eqE (Fe.canon (Fe.isE (Fe.r0E u v) v)) (Fe.canon (Fe.subE ⟨0,0,0,0,0⟩ u))=true then Fe.finE (Fe.turnE (Fe.r0E u v)) else ⟨0,0,0,0,0⟩
def rootB (u v:Fe.E):Bool:=eqE (Fe.canon (Fe.isE (Fe.r0E u v) v)) (Fe.canon u)||eqE (Fe.canon (Fe.isE (Fe.r0E u v) v)) (Fe.canon (Fe.subE ⟨0,0,0,0,0⟩ u))
theorem two_w:Fe.W ⟨2,0,0,0,0⟩:=by simp only [Fe.W];omega
theorem pow2_E (w:World):Calls Tryz.prog 323 #[.agg #[.int .u64 2,.int .u64 0,.int .u64 0,.int .u64 0,.int .u64 0],.int .i64 253,.int .u64 5] w (PostE Fe.k2 w):=by
 rw [Fe.k2_eq]
 exact power_E ⟨2,0,0,0,0⟩ two_w 253 5 (by decide) (by decide) (by decide) w
def PostR (x:Fe.E) (b:Bool) (w:World) (e:Ending) (w':World):Prop:=e=.returned (.tuple #[.agg #[.int .u64 x.a0,.int .u64 x.a1,.int .u64 x.a2,.int .u64 x.a3,.int .u64 x.a4],.bool b])∧Below w.heap.size w w'
def rt1L (v:Fe.E) (B0:Nat):List (Value→World→Prop):=[
 Eq1 (.agg #[.int .u64 v.a0,.int .u64 v.a1,.int .u64 v.a2,.int .u64 v.a3,.int .u64 v.a4]),
 Eq1 (.agg #[.int .u64 (Fe.mulE v v).a0,.int .u64 (Fe.mulE v v).a1,.int .u64 (Fe.mulE v v).a2,.int .u64 (Fe.mulE v v).a3,.int .u64 (Fe.mulE v v).a4]),
 Eq1 (.agg #[.int .u64 v.a0,.int .u64 v.a1,.int .u64 v.a2,.int .u64 v.a3,.int .u64 v.a4]),
 Eq1 (.agg #[.int .u64 (Fe.mulE (Fe.mulE v v) v).a0,.int .u64 (Fe.mulE (Fe.mulE v v) v).a1,.int .u64 (Fe.mulE (Fe.mulE v v) v).a2,.int .u64 (Fe.mulE (Fe.mulE v v) v).a3,.int .u64 (Fe.mulE (Fe.mulE v v) v).a4]),
 NewB B0 202 #[.int .u64 0,.int .u64 0,.int .u64 0,.int .u64 0,.int .u64 0]]
theorem rt1S (v:Fe.E) (B0:Nat):∀ j x' q q',(rt1L v B0).getD j (fun _ _=>True) x' q→Below q.heap.size q q'→(rt1L v B0).getD j (fun _ _=>True) x' q':=by
 refine sta_all _ ?_
 simp only [rt1L,List.mem_cons,forall_eq_or_imp,List.not_mem_nil,false_implies,implies_true,and_true]
 exact ⟨sta_eq _,sta_eq _,sta_eq _,sta_eq _,sta_new _ _ _⟩
theorem rt1O (v:Fe.E) (B0:Nat):∀ j x' q,(fun j=>j==4) j=true→(rt1L v B0).getD j (fun _ _=>True) x' q→∀ g,x'=.pointer (some ⟨g,0,none⟩)→g<q.heap.size:=by
 intro j x' q hj hv g e
 have hj':j=4:=by simpa using hj
 subst hj'
 all_goals exact new_lt hv e
def rt2L (u v v3:Fe.E) (B0:Nat):List (Value→World→Prop):=[
 Eq1 (.agg #[.int .u64 u.a0,.int .u64 u.a1,.int .u64 u.a2,.int .u64 u.a3,.int .u64 u.a4]),
 Eq1 (.agg #[.int .u64 v3.a0,.int .u64 v3.a1,.int .u64 v3.a2,.int .u64 v3.a3,.int .u64 v3.a4]),
 Eq1 (.agg #[.int .u64 (Fe.mulE u v3).a0,.int .u64 (Fe.mulE u v3).a1,.int .u64 (Fe.mulE u v3).a2,.int .u64 (Fe.mulE u v3).a3,.int .u64 (Fe.mulE u v3).a4]),
 Eq1 (.agg #[.int .u64 u.a0,.int .u64 u.a1,.int .u64 u.a2,.int .u64 u.a3,.int .u64 u.a4]),
 Eq1 (.agg #[.int .u64 v3.a0,.int .u64 v3.a1,.int .u64 v3.a2,.int .u64 v3.a3,.int .u64 v3.a4]),
 Eq1 (.agg #[.int .u64 (Fe.mulE v3 v3).a0,.int .u64 (Fe.mulE v3 v3).a1,.int .u64 (Fe.mulE v3 v3).a2,.int .u64 (Fe.mulE v3 v3).a3,.int .u64 (Fe.mulE v3 v3).a4]),
 Eq1 (.agg #[.int .u64 v.a0,.int .u64 v.a1,.int .u64 v.a2,.int .u64 v.a3,.int .u64 v.a4]),
 Eq1 (.agg #[.int .u64 (Fe.mulE (Fe.mulE v3 v3) v).a0,.int .u64 (Fe.mulE (Fe.mulE v3 v3) v).a1,.int .u64 (Fe.mulE (Fe.mulE v3 v3) v).a2,.int .u64 (Fe.mulE (Fe.mulE v3 v3) v).a3,.int .u64 (Fe.mulE (Fe.mulE v3 v3) v).a4]),
 Eq1 (.agg #[.int .u64 (Fe.mulE u (Fe.mulE (Fe.mulE v3 v3) v)).a0,.int .u64 (Fe.mulE u (Fe.mulE (Fe.mulE v3 v3) v)).a1,.int .u64 (Fe.mulE u (Fe.mulE (Fe.mulE v3 v3) v)).a2,.int .u64 (Fe.mulE u (Fe.mulE (Fe.mulE v3 v3) v)).a3,.int .u64 (Fe.mulE u (Fe.mulE (Fe.mulE v3 v3) v)).a4]),
 Eq1 (.agg #[.int .u64 (Fe.pw (Fe.mulE u (Fe.mulE (Fe.mulE v3 v3) v)) 252 3 252).a0,.int .u64 (Fe.pw (Fe.mulE u (Fe.mulE (Fe.mulE v3 v3) v)) 252 3 252).a1,.int .u64 (Fe.pw (Fe.mulE u (Fe.mulE (Fe.mulE v3 v3) v)) 252 3 252).a2,.int .u64 (Fe.pw (Fe.mulE u (Fe.mulE (Fe.mulE v3 v3) v)) 252 3 252).a3,.int .u64 (Fe.pw (Fe.mulE u (Fe.mulE (Fe.mulE v3 v3) v)) 252 3 252).a4]),
 Eq1 (.agg #[.int .u64 (Fe.mulE (Fe.mulE u v3) (Fe.pw (Fe.mulE u (Fe.mulE (Fe.mulE v3 v3) v)) 252 3 252)).a0,.int .u64 (Fe.mulE (Fe.mulE u v3) (Fe.pw (Fe.mulE u (Fe.mulE (Fe.mulE v3 v3) v)) 252 3 252)).a1,.int .u64 (Fe.mulE (Fe.mulE u v3) (Fe.pw (Fe.mulE u (Fe.mulE (Fe.mulE v3 v3) v)) 252 3 252)).a2,.int .u64 (Fe.mulE (Fe.mulE u v3) (Fe.pw (Fe.mulE u (Fe.mulE (Fe.mulE v3 v3) v)) 252 3 252)).a3,.int .u64 (Fe.mulE (Fe.mulE u v3) (Fe.pw (Fe.mulE u (Fe.mulE (Fe.mulE v3 v3) v)) 252 3 252)).a4]),
 NewB B0 202 #[.int .u64 0,.int .u64 0,.int .u64 0,.int .u64 0,.int .u64 0]]
theorem rt2S (u v v3:Fe.E) (B0:Nat):∀ j x' q q',(rt2L u v v3 B0).getD j (fun _ _=>True) x' q→Below q.heap.size q q'→(rt2L u v v3 B0).getD j (fun _ _=>True) x' q':=by
 refine sta_all _ ?_
 simp only [rt2L,List.mem_cons,forall_eq_or_imp,List.not_mem_nil,false_implies,implies_true,and_true]
 exact ⟨sta_eq _,sta_eq _,sta_eq _,sta_eq _,sta_eq _,sta_eq _,sta_eq _,sta_eq _,sta_eq _,sta_eq _,sta_eq _,sta_new _ _ _⟩
theorem rt2O (u v v3:Fe.E) (B0:Nat):∀ j x' q,(fun j=>j==11) j=true→(rt2L u v v3 B0).getD j (fun _ _=>True) x' q→∀ g,x'=.pointer (some ⟨g,0,none⟩)→g<q.heap.size:=by
 intro j x' q hj hv g e
 have hj':j=11:=by simpa using hj
 subst hj'
 all_goals exact new_lt hv e
def rt3L (v r:Fe.E) (B0:Nat):List (Value→World→Prop):=[
 Eq1 (.agg #[.int .u64 r.a0,.int .u64 r.a1,.int .u64 r.a2,.int .u64 r.a3,.int .u64 r.a4]),
 Eq1 (.agg #[.int .u64 (Fe.mulE r r).a0,.int .u64 (Fe.mulE r r).a1,.int .u64 (Fe.mulE r r).a2,.int .u64 (Fe.mulE r r).a3,.int .u64 (Fe.mulE r r).a4]),
 Eq1 (.agg #[.int .u64 v.a0,.int .u64 v.a1,.int .u64 v.a2,.int .u64 v.a3,.int .u64 v.a4]),
 Eq1 (.agg #[.int .u64 (Fe.mulE (Fe.mulE r r) v).a0,.int .u64 (Fe.mulE (Fe.mulE r r) v).a1,.int .u64 (Fe.mulE (Fe.mulE r r) v).a2,.int .u64 (Fe.mulE (Fe.mulE r r) v).a3,.int .u64 (Fe.mulE (Fe.mulE r r) v).a4]),
 NewB B0 202 #[.int .u64 0,.int .u64 0,.int .u64 0,.int .u64 0,.int .u64 0]]
theorem rt3S (v r:Fe.E) (B0:Nat):∀ j x' q q',(rt3L v r B0).getD j (fun _ _=>True) x' q→Below q.heap.size q q'→(rt3L v r B0).getD j (fun _ _=>True) x' q':=by
 refine sta_all _ ?_
 simp only [rt3L,List.mem_cons,forall_eq_or_imp,List.not_mem_nil,false_implies,implies_true,and_true]
 exact ⟨sta_eq _,sta_eq _,sta_eq _,sta_eq _,sta_new _ _ _⟩
theorem rt3O (v r:Fe.E) (B0:Nat):∀ j x' q,(fun j=>j==4) j=true→(rt3L v r B0).getD j (fun _ _=>True) x' q→∀ g,x'=.pointer (some ⟨g,0,none⟩)→g<q.heap.size:=by
 intro j x' q hj hv g e
 have hj':j=4:=by simpa using hj
 subst hj'
 all_goals exact new_lt hv e
def rt6L (u s:Fe.E):List (Value→World→Prop):=[
 Eq1 (.agg #[.int .u64 s.a0,.int .u64 s.a1,.int .u64 s.a2,.int .u64 s.a3,.int .u64 s.a4]),
 Eq1 (.agg #[.int .u64 u.a0,.int .u64 u.a1,.int .u64 u.a2,.int .u64 u.a3,.int .u64 u.a4]),
 Eq1 (.agg #[.int .u64 (Fe.subE ⟨0,0,0,0,0⟩ u).a0,.int .u64 (Fe.subE ⟨0,0,0,0,0⟩ u).a1,.int .u64 (Fe.subE ⟨0,0,0,0,0⟩ u).a2,.int .u64 (Fe.subE ⟨0,0,0,0,0⟩ u).a3,.int .u64 (Fe.subE ⟨0,0,0,0,0⟩ u).a4]),
 Eq1 (.bool (eqE (Fe.canon s) (Fe.canon (Fe.subE ⟨0,0,0,0,0⟩ u)))),
 Eq1 (.bool (eqE (Fe.canon s) (Fe.canon (Fe.subE ⟨0,0,0,0,0⟩ u))))]
theorem rt6S (u s:Fe.E):∀ j x' q q',(rt6L u s).getD j (fun _ _=>True) x' q→Below q.heap.size q q'→(rt6L u s).getD j (fun _ _=>True) x' q':=by
 refine sta_all _ ?_
 simp only [rt6L,List.mem_cons,forall_eq_or_imp,List.not_mem_nil,false_implies,implies_true,and_true]
 exact ⟨sta_eq _,sta_eq _,sta_eq _,sta_eq _,sta_eq _⟩
def rt7L (r:Fe.E):List (Value→World→Prop):=[
 Eq1 (.agg #[.int .u64 r.a0,.int .u64 r.a1,.int .u64 r.a2,.int .u64 r.a3,.int .u64 r.a4]),
 Eq1 (.agg #[.int .u64 2,.int .u64 0,.int .u64 0,.int .u64 0,.int .u64 0]),
 Eq1 (.agg #[.int .u64 (Fe.k2).a0,.int .u64 (Fe.k2).a1,.int .u64 (Fe.k2).a2,.int .u64 (Fe.k2).a3,.int .u64 (Fe.k2).a4]),
 Eq1 (.agg #[.int .u64 (Fe.mulE r (Fe.k2)).a0,.int .u64 (Fe.mulE r (Fe.k2)).a1,.int .u64 (Fe.mulE r (Fe.k2)).a2,.int .u64 (Fe.mulE r (Fe.k2)).a3,.int .u64 (Fe.mulE r (Fe.k2)).a4])]
theorem rt7S (r:Fe.E):∀ j x' q q',(rt7L r).getD j (fun _ _=>True) x' q→Below q.heap.size q q'→(rt7L r).getD j (fun _ _=>True) x' q':=by
 refine sta_all _ ?_
 simp only [rt7L,List.mem_cons,forall_eq_or_imp,List.not_mem_nil,false_implies,implies_true,and_true]
 exact ⟨sta_eq _,sta_eq _,sta_eq _,sta_eq _⟩
set_option maxRecDepth 20000 in
set_option maxHeartbeats 4000000 in
set_option maxRecDepth 10000 in
theorem root_E (u v:Fe.E) (hwu:Fe.W u) (hwv:Fe.W v) (w:World):Calls Tryz.prog 252 #[.agg #[.int .u64 u.a0,.int .u64 u.a1,.int .u64 u.a2,.int .u64 u.a3,.int .u64 u.a4],.agg #[.int .u64 v.a0,.int .u64 v.a1,.int .u64 v.a2,.int .u64 v.a3,.int .u64 v.a4]] w (PostR (rootE u v) (rootB u v) w):=by
 go_enter Tryz.func252,Tryz.ntmps252
 go_wp2
 refine at_world (fun W0 hW=>?_)
 have hU:Blk W0 (w.heap.size) 202 #[.int .u64 u.a0,.int .u64 u.a1,.int .u64 u.a2,.int .u64 u.a3,.int .u64 u.a4]:=by rw [hW];exact ((Blk.new _ _ _).alloc _).alloc _
 have hV:Blk W0 (w.heap.size+1) 202 #[.int .u64 v.a0,.int .u64 v.a1,.int .u64 v.a2,.int .u64 v.a3,.int .u64 v.a4]:=by rw [hW];exact blk_at (by simp) ((Blk.new _ _ _).alloc _)
 have hZ:Blk W0 (w.heap.size+1+1) 202 #[.int .u64 0,.int .u64 0,.int .u64 0,.int .u64 0,.int .u64 0]:=by rw [hW];exact blk_at (by simp) (Blk.new _ _ _)
 have hb0:Below w.heap.size w W0:=by rw [hW];go_grown
 have hle:w.heap.size+1+1<W0.heap.size:=hZ.lt
 clear hW
 refine wp_region_grow2 5 (fun k=>Nat.beq k 6||(Nat.ble 9 k&&Nat.ble k 12)) _ [] (fun j x' q=>(rt1L v W0.heap.size).getD j (fun _ _=>True) x' q) (fun j=>j==4) (fun f=>#[.agg #[.int .u64 u.a0,.int .u64 u.a1,.int .u64 u.a2,.int .u64 u.a3,.int .u64 u.a4],.agg #[.int .u64 v.a0,.int .u64 v.a1,.int .u64 v.a2,.int .u64 v.a3,.int .u64 v.a4],.pointer (some ⟨w.heap.size,0,none⟩),.pointer (some ⟨w.heap.size+1,0,none⟩),.pointer (some ⟨w.heap.size+1+1,0,none⟩),.bool false,f 6,undef,undef,f 9,f 10,f 11,f 12,undef,undef,undef,undef,undef,undef,undef,undef,undef,undef,undef,undef,undef,undef,undef,undef,undef,undef,undef,undef,undef,undef,undef,undef,undef,undef,undef,undef,undef,undef,undef,undef,undef,undef]) (fun f=>rfl) (by kernel_rfl) (by kernel_rfl) (by kernel_rfl) (by kernel_rfl) (by kernel_rfl) (rt1S _ _) (rt1O _ _) ?_ ?_
 ·refine steps2_cons ?_ ?_
  ·intro f w1 hb hd Q hK
   clear hd
   have hK:=Lib.hid hK
   obtain ⟨c0,c1,c2,c3,c4⟩:=blk5 (hV.below hb)
   go_wp2
   exact hK.out _ _ rfl (.refl _ _) nof
  refine steps2_cons ?_ ?_
  ·intro f w1 hb hd Q hK
   have e9:f 9=.agg #[.int .u64 v.a0,.int .u64 v.a1,.int .u64 v.a2,.int .u64 v.a3,.int .u64 v.a4]:=hd.1 rfl
   clear hd
   simp only [e9] at hK
   have hK:=Lib.hid hK
   go_wp2_with fail
   refine ((square_E v hwv) _).mono ?_
   rintro e w2 ⟨rfl,hb2⟩
   go_wp2
   exact hK.out _ _ rfl hb2 nof
  refine steps2_cons ?_ ?_
  ·intro f w1 hb hd Q hK
   clear hd
   have hK:=Lib.hid hK
   obtain ⟨c0,c1,c2,c3,c4⟩:=blk5 (hV.below hb)
   go_wp2
   exact hK.out _ _ rfl (.refl _ _) nof
  refine steps2_cons ?_ ?_
  ·intro f w1 hb hd Q hK
   have e10:f 10=.agg #[.int .u64 (Fe.mulE v v).a0,.int .u64 (Fe.mulE v v).a1,.int .u64 (Fe.mulE v v).a2,.int .u64 (Fe.mulE v v).a3,.int .u64 (Fe.mulE v v).a4]:=hd.1 rfl
   have e11:f 11=.agg #[.int .u64 v.a0,.int .u64 v.a1,.int .u64 v.a2,.int .u64 v.a3,.int .u64 v.a4]:=hd.2.1 rfl
   clear hd
   simp only [e10,e11] at hK
   have hK:=Lib.hid hK
   go_wp2_with fail
   refine ((mul_E (Fe.mulE v v) v (Fe.mulE_w _ _) hwv) _).mono ?_
   rintro e w2 ⟨rfl,hb2⟩
   go_wp2
   exact hK.out _ _ rfl hb2 nof
  refine steps2_cons ?_ ?_
  ·intro f w1 hb hd Q hK
   clear hd
   have hK:=Lib.hid hK
   have hsz:=hb.size
   go_wp2
   exact hK.out _ _ ⟨_,rfl,hsz,Blk.new _ _ _⟩ ((Below.refl _ _).alloc (Nat.le_refl _) _) (fun _=>⟨_,rfl,Nat.le_refl _⟩)
  trivial
 intro f1 w1 hb hf hne
 obtain ⟨g6,d6,lo6,bk6⟩:NewB W0.heap.size 202 #[.int .u64 0,.int .u64 0,.int .u64 0,.int .u64 0,.int .u64 0] (f1 6) w1:=hf 4 _ _ (by decide) rfl rfl
 have d12:f1 12=.agg #[.int .u64 (Fe.mulE (Fe.mulE v v) v).a0,.int .u64 (Fe.mulE (Fe.mulE v v) v).a1,.int .u64 (Fe.mulE (Fe.mulE v v) v).a2,.int .u64 (Fe.mulE (Fe.mulE v v) v).a3,.int .u64 (Fe.mulE (Fe.mulE v v) v).a4]:=hf 3 _ _ (by decide) rfl rfl
 clear hf hne
 simp only [d6,d12]
 refine wpList_store_blk rfl _ _ _ rfl g6 202 #[.int .u64 0,.int .u64 0,.int .u64 0,.int .u64 0,.int .u64 0] #[.int .u64 (Fe.mulE (Fe.mulE v v) v).a0,.int .u64 (Fe.mulE (Fe.mulE v v) v).a1,.int .u64 (Fe.mulE (Fe.mulE v v) v).a2,.int .u64 (Fe.mulE (Fe.mulE v v) v).a3,.int .u64 (Fe.mulE (Fe.mulE v v) v).a4] rfl rfl bk6 rfl (by kernel_rfl) (by kernel_rfl) ?_
 intro w2 hnew hgr hsz
 refine wpList_nil ?_
 have hlo:w.heap.size+1+1<g6:=by omega
 have hU:=(hU.below hb).grown hgr (by simp;omega)
 have hV:=(hV.below hb).grown hgr (by simp;omega)
 have hZ:=(hZ.below hb).grown hgr (by simp;omega)
 have hb0:=(hb0.trans (hb.mono hb0.size)).grown hgr (Nat.le_trans hb0.size hb.size) (fun k h=>by injection h;omega)
 have h3:=hnew
 have hw3:Fe.W (Fe.mulE (Fe.mulE v v) v):=(Fe.mulE_w _ _)
 clear hgr hsz hb hnew bk6 d6 d12 lo6 hle
 have h3lt:=h3.lt
 generalize hv3:Fe.mulE (Fe.mulE v v) v=v3 at *
 replace hv3:=Lib.hid hv3
 go_wp2
 refine wp_region_grow2 12 (fun k=>Nat.beq k 7||(Nat.ble 13 k&&Nat.ble k 23)) _ [] (fun j x' q=>(rt2L u v v3 w2.heap.size).getD j (fun _ _=>True) x' q) (fun j=>j==11) (fun f=>#[.agg #[.int .u64 u.a0,.int .u64 u.a1,.int .u64 u.a2,.int .u64 u.a3,.int .u64 u.a4],.agg #[.int .u64 v.a0,.int .u64 v.a1,.int .u64 v.a2,.int .u64 v.a3,.int .u64 v.a4],.pointer (some ⟨w.heap.size,0,none⟩),.pointer (some ⟨w.heap.size+1,0,none⟩),.pointer (some ⟨w.heap.size+1+1,0,none⟩),.bool false,.pointer (some ⟨g6,0,none⟩),f 7,undef,f1 9,f1 10,f1 11,.agg #[.int .u64 v3.a0,.int .u64 v3.a1,.int .u64 v3.a2,.int .u64 v3.a3,.int .u64 v3.a4],f 13,f 14,f 15,f 16,f 17,f 18,f 19,f 20,f 21,f 22,f 23,undef,undef,undef,undef,undef,undef,undef,undef,undef,undef,undef,undef,undef,undef,undef,undef,undef,undef,undef,undef,undef,undef,undef]) (fun f=>rfl) (by kernel_rfl) (by kernel_rfl) (by kernel_rfl) (by kernel_rfl) (by kernel_rfl) (rt2S _ _ _ _) (rt2O _ _ _ _) ?_ ?_
 ·refine steps2_cons ?_ ?_
  ·intro f w1 hb hd Q hK
   clear hd
   have hK:=Lib.hid hK
   obtain ⟨c0,c1,c2,c3,c4⟩:=blk5 (hU.below hb)
   go_wp2
   exact hK.out _ _ rfl (.refl _ _) nof
  refine steps2_cons ?_ ?_
  ·intro f w1 hb hd Q hK
   clear hd
   have hK:=Lib.hid hK
   obtain ⟨c0,c1,c2,c3,c4⟩:=blk5 (h3.below hb)
   go_wp2
   exact hK.out _ _ rfl (.refl _ _) nof
  refine steps2_cons ?_ ?_
  ·intro f w1 hb hd Q hK
   have e13:f 13=.agg #[.int .u64 u.a0,.int .u64 u.a1,.int .u64 u.a2,.int .u64 u.a3,.int .u64 u.a4]:=hd.1 rfl
   have e14:f 14=.agg #[.int .u64 v3.a0,.int .u64 v3.a1,.int .u64 v3.a2,.int .u64 v3.a3,.int .u64 v3.a4]:=hd.2.1 rfl
   clear hd
   simp only [e13,e14] at hK
   have hK:=Lib.hid hK
   go_wp2_with fail
   refine ((mul_E u v3 hwu hw3) _).mono ?_
   rintro e w2 ⟨rfl,hb2⟩
   go_wp2
   exact hK.out _ _ rfl hb2 nof
  refine steps2_cons ?_ ?_
  ·intro f w1 hb hd Q hK
   clear hd
   have hK:=Lib.hid hK
   obtain ⟨c0,c1,c2,c3,c4⟩:=blk5 (hU.below hb)
   go_wp2
   exact hK.out _ _ rfl (.refl _ _) nof
  refine steps2_cons ?_ ?_
  ·intro f w1 hb hd Q hK
   clear hd
   have hK:=Lib.hid hK
   obtain ⟨c0,c1,c2,c3,c4⟩:=blk5 (h3.below hb)
   go_wp2
   exact hK.out _ _ rfl (.refl _ _) nof
  refine steps2_cons ?_ ?_
  ·intro f w1 hb hd Q hK
   have e17:f 17=.agg #[.int .u64 v3.a0,.int .u64 v3.a1,.int .u64 v3.a2,.int .u64 v3.a3,.int .u64 v3.a4]:=hd.1 rfl
   clear hd
   simp only [e17] at hK
   have hK:=Lib.hid hK
   go_wp2_with fail
   refine ((square_E v3 hw3) _).mono ?_
   rintro e w2 ⟨rfl,hb2⟩
   go_wp2
   exact hK.out _ _ rfl hb2 nof
  refine steps2_cons ?_ ?_
  ·intro f w1 hb hd Q hK
   clear hd
   have hK:=Lib.hid hK
   obtain ⟨c0,c1,c2,c3,c4⟩:=blk5 (hV.below hb)
   go_wp2
   exact hK.out _ _ rfl (.refl _ _) nof
  refine steps2_cons ?_ ?_
  ·intro f w1 hb hd Q hK
   have e18:f 18=.agg #[.int .u64 (Fe.mulE v3 v3).a0,.int .u64 (Fe.mulE v3 v3).a1,.int .u64 (Fe.mulE v3 v3).a2,.int .u64 (Fe.mulE v3 v3).a3,.int .u64 (Fe.mulE v3 v3).a4]:=hd.1 rfl
   have e19:f 19=.agg #[.int .u64 v.a0,.int .u64 v.a1,.int .u64 v.a2,.int .u64 v.a3,.int .u64 v.a4]:=hd.2.1 rfl
   clear hd
   simp only [e18,e19] at hK
   have hK:=Lib.hid hK
   go_wp2_with fail
   refine ((mul_E (Fe.mulE v3 v3) v (Fe.mulE_w _ _) hwv) _).mono ?_
   rintro e w2 ⟨rfl,hb2⟩
   go_wp2
   exact hK.out _ _ rfl hb2 nof
  refine steps2_cons ?_ ?_
  ·intro f w1 hb hd Q hK
   have e16:f 16=.agg #[.int .u64 u.a0,.int .u64 u.a1,.int .u64 u.a2,.int .u64 u.a3,.int .u64 u.a4]:=hd.1 rfl
   have e20:f 20=.agg #[.int .u64 (Fe.mulE (Fe.mulE v3 v3) v).a0,.int .u64 (Fe.mulE (Fe.mulE v3 v3) v).a1,.int .u64 (Fe.mulE (Fe.mulE v3 v3) v).a2,.int .u64 (Fe.mulE (Fe.mulE v3 v3) v).a3,.int .u64 (Fe.mulE (Fe.mulE v3 v3) v).a4]:=hd.2.1 rfl
   clear hd
   simp only [e16,e20] at hK
   have hK:=Lib.hid hK
   go_wp2_with fail
   refine ((mul_E u (Fe.mulE (Fe.mulE v3 v3) v) hwu (Fe.mulE_w _ _)) _).mono ?_
   rintro e w2 ⟨rfl,hb2⟩
   go_wp2
   exact hK.out _ _ rfl hb2 nof
  refine steps2_cons ?_ ?_
  ·intro f w1 hb hd Q hK
   have e21:f 21=.agg #[.int .u64 (Fe.mulE u (Fe.mulE (Fe.mulE v3 v3) v)).a0,.int .u64 (Fe.mulE u (Fe.mulE (Fe.mulE v3 v3) v)).a1,.int .u64 (Fe.mulE u (Fe.mulE (Fe.mulE v3 v3) v)).a2,.int .u64 (Fe.mulE u (Fe.mulE (Fe.mulE v3 v3) v)).a3,.int .u64 (Fe.mulE u (Fe.mulE (Fe.mulE v3 v3) v)).a4]:=hd.1 rfl
   clear hd
   simp only [e21] at hK
   have hK:=Lib.hid hK
   go_wp2_with fail
   refine ((power_E (Fe.mulE u (Fe.mulE (Fe.mulE v3 v3) v)) (Fe.mulE_w _ _) 252 3 (by decide) (by decide) (by decide)) _).mono ?_
   rintro e w2 ⟨rfl,hb2⟩
   go_wp2
   exact hK.out _ _ rfl hb2 nof
  refine steps2_cons ?_ ?_
  ·intro f w1 hb hd Q hK
   have e15:f 15=.agg #[.int .u64 (Fe.mulE u v3).a0,.int .u64 (Fe.mulE u v3).a1,.int .u64 (Fe.mulE u v3).a2,.int .u64 (Fe.mulE u v3).a3,.int .u64 (Fe.mulE u v3).a4]:=hd.1 rfl
   have e22:f 22=.agg #[.int .u64 (Fe.pw (Fe.mulE u (Fe.mulE (Fe.mulE v3 v3) v)) 252 3 252).a0,.int .u64 (Fe.pw (Fe.mulE u (Fe.mulE (Fe.mulE v3 v3) v)) 252 3 252).a1,.int .u64 (Fe.pw (Fe.mulE u (Fe.mulE (Fe.mulE v3 v3) v)) 252 3 252).a2,.int .u64 (Fe.pw (Fe.mulE u (Fe.mulE (Fe.mulE v3 v3) v)) 252 3 252).a3,.int .u64 (Fe.pw (Fe.mulE u (Fe.mulE (Fe.mulE v3 v3) v)) 252 3 252).a4]:=hd.2.1 rfl
   clear hd
   simp only [e15,e22] at hK
   have hK:=Lib.hid hK
   go_wp2_with fail
   refine ((mul_E (Fe.mulE u v3) (Fe.pw (Fe.mulE u (Fe.mulE (Fe.mulE v3 v3) v)) 252 3 252) (Fe.mulE_w _ _) (Fe.pw_w _ _ _ _)) _).mono ?_
   rintro e w2 ⟨rfl,hb2⟩
   go_wp2
   exact hK.out _ _ rfl hb2 nof
  refine steps2_cons ?_ ?_
  ·intro f w1 hb hd Q hK
   clear hd
   have hK:=Lib.hid hK
   have hsz:=hb.size
   go_wp2
   exact hK.out _ _ ⟨_,rfl,hsz,Blk.new _ _ _⟩ ((Below.refl _ _).alloc (Nat.le_refl _) _) (fun _=>⟨_,rfl,Nat.le_refl _⟩)
  trivial
 intro f2 w1 hb hf hne
 obtain ⟨g7,d7,lo7,bk7⟩:NewB w2.heap.size 202 #[.int .u64 0,.int .u64 0,.int .u64 0,.int .u64 0,.int .u64 0] (f2 7) w1:=hf 11 _ _ (by decide) rfl rfl
 have d23:f2 23=.agg #[.int .u64 (Fe.mulE (Fe.mulE u v3) (Fe.pw (Fe.mulE u (Fe.mulE (Fe.mulE v3 v3) v)) 252 3 252)).a0,.int .u64 (Fe.mulE (Fe.mulE u v3) (Fe.pw (Fe.mulE u (Fe.mulE (Fe.mulE v3 v3) v)) 252 3 252)).a1,.int .u64 (Fe.mulE (Fe.mulE u v3) (Fe.pw (Fe.mulE u (Fe.mulE (Fe.mulE v3 v3) v)) 252 3 252)).a2,.int .u64 (Fe.mulE (Fe.mulE u v3) (Fe.pw (Fe.mulE u (Fe.mulE (Fe.mulE v3 v3) v)) 252 3 252)).a3,.int .u64 (Fe.mulE (Fe.mulE u v3) (Fe.pw (Fe.mulE u (Fe.mulE (Fe.mulE v3 v3) v)) 252 3 252)).a4]:=hf 10 _ _ (by decide) rfl rfl
 clear hf hne
 simp only [d7,d23]
 refine wpList_store_blk rfl _ _ _ rfl g7 202 #[.int .u64 0,.int .u64 0,.int .u64 0,.int .u64 0,.int .u64 0] #[.int .u64 (Fe.mulE (Fe.mulE u v3) (Fe.pw (Fe.mulE u (Fe.mulE (Fe.mulE v3 v3) v)) 252 3 252)).a0,.int .u64 (Fe.mulE (Fe.mulE u v3) (Fe.pw (Fe.mulE u (Fe.mulE (Fe.mulE v3 v3) v)) 252 3 252)).a1,.int .u64 (Fe.mulE (Fe.mulE u v3) (Fe.pw (Fe.mulE u (Fe.mulE (Fe.mulE v3 v3) v)) 252 3 252)).a2,.int .u64 (Fe.mulE (Fe.mulE u v3) (Fe.pw (Fe.mulE u (Fe.mulE (Fe.mulE v3 v3) v)) 252 3 252)).a3,.int .u64 (Fe.mulE (Fe.mulE u v3) (Fe.pw (Fe.mulE u (Fe.mulE (Fe.mulE v3 v3) v)) 252 3 252)).a4] rfl rfl bk7 rfl (by kernel_rfl) (by kernel_rfl) ?_
 intro w3 hnew hgr hsz
 refine wpList_nil ?_
 have hlo7:g6<g7:=by omega
 have hU:=(hU.below hb).grown hgr (by simp;omega)
 have hV:=(hV.below hb).grown hgr (by simp;omega)
 have hZ:=(hZ.below hb).grown hgr (by simp;omega)
 have h3:=(h3.below hb).grown hgr (by simp;omega)
 have hb0:=(hb0.trans (hb.mono hb0.size)).grown hgr (Nat.le_trans hb0.size hb.size) (fun k h=>by injection h;omega)
 have hR:=hnew
 have hwr:Fe.W (Fe.mulE (Fe.mulE u v3) (Fe.pw (Fe.mulE u (Fe.mulE (Fe.mulE v3 v3) v)) 252 3 252)):=(Fe.mulE_w _ _)
 clear hgr hsz hb hnew bk7 d7 d23 lo7 h3lt
 have hRlt:=hR.lt
 have hr0:Fe.r0E u v=Fe.mulE (Fe.mulE u v3) (Fe.pw (Fe.mulE u (Fe.mulE (Fe.mulE v3 v3) v)) 252 3 252):=by rw [← hv3.out];rfl
 generalize Fe.mulE (Fe.mulE u v3) (Fe.pw (Fe.mulE u (Fe.mulE (Fe.mulE v3 v3) v)) 252 3 252)=r at *
 replace hr0:=Lib.hid hr0
 go_wp2
 refine wp_region_grow2 5 (fun k=>Nat.beq k 8||(Nat.ble 24 k&&Nat.ble k 27)) _ [] (fun j x' q=>(rt3L v r w3.heap.size).getD j (fun _ _=>True) x' q) (fun j=>j==4) (fun f=>#[.agg #[.int .u64 u.a0,.int .u64 u.a1,.int .u64 u.a2,.int .u64 u.a3,.int .u64 u.a4],.agg #[.int .u64 v.a0,.int .u64 v.a1,.int .u64 v.a2,.int .u64 v.a3,.int .u64 v.a4],.pointer (some ⟨w.heap.size,0,none⟩),.pointer (some ⟨w.heap.size+1,0,none⟩),.pointer (some ⟨w.heap.size+1+1,0,none⟩),.bool false,.pointer (some ⟨g6,0,none⟩),.pointer (some ⟨g7,0,none⟩),f 8,f1 9,f1 10,f1 11,.agg #[.int .u64 v3.a0,.int .u64 v3.a1,.int .u64 v3.a2,.int .u64 v3.a3,.int .u64 v3.a4],f2 13,f2 14,f2 15,f2 16,f2 17,f2 18,f2 19,f2 20,f2 21,f2 22,.agg #[.int .u64 r.a0,.int .u64 r.a1,.int .u64 r.a2,.int .u64 r.a3,.int .u64 r.a4],f 24,f 25,f 26,f 27,undef,undef,undef,undef,undef,undef,undef,undef,undef,undef,undef,undef,undef,undef,undef,undef,undef,undef,undef]) (fun f=>rfl) (by kernel_rfl) (by kernel_rfl) (by kernel_rfl) (by kernel_rfl) (by kernel_rfl) (rt3S _ _ _) (rt3O _ _ _) ?_ ?_
 ·refine steps2_cons ?_ ?_
  ·intro f w1 hb hd Q hK
   clear hd
   have hK:=Lib.hid hK
   obtain ⟨c0,c1,c2,c3,c4⟩:=blk5 (hR.below hb)
   go_wp2
   exact hK.out _ _ rfl (.refl _ _) nof
  refine steps2_cons ?_ ?_
  ·intro f w1 hb hd Q hK
   have e24:f 24=.agg #[.int .u64 r.a0,.int .u64 r.a1,.int .u64 r.a2,.int .u64 r.a3,.int .u64 r.a4]:=hd.1 rfl
   clear hd
   simp only [e24] at hK
   have hK:=Lib.hid hK
   go_wp2_with fail
   refine ((square_E r hwr) _).mono ?_
   rintro e w2 ⟨rfl,hb2⟩
   go_wp2
   exact hK.out _ _ rfl hb2 nof
  refine steps2_cons ?_ ?_
  ·intro f w1 hb hd Q hK
   clear hd
   have hK:=Lib.hid hK
   obtain ⟨c0,c1,c2,c3,c4⟩:=blk5 (hV.below hb)
   go_wp2
   exact hK.out _ _ rfl (.refl _ _) nof
  refine steps2_cons ?_ ?_
  ·intro f w1 hb hd Q hK
   have e25:f 25=.agg #[.int .u64 (Fe.mulE r r).a0,.int .u64 (Fe.mulE r r).a1,.int .u64 (Fe.mulE r r).a2,.int .u64 (Fe.mulE r r).a3,.int .u64 (Fe.mulE r r).a4]:=hd.1 rfl
   have e26:f 26=.agg #[.int .u64 v.a0,.int .u64 v.a1,.int .u64 v.a2,.int .u64 v.a3,.int .u64 v.a4]:=hd.2.1 rfl
   clear hd
   simp only [e25,e26] at hK
   have hK:=Lib.hid hK
   go_wp2_with fail
   refine ((mul_E (Fe.mulE r r) v (Fe.mulE_w _ _) hwv) _).mono ?_
   rintro e w2 ⟨rfl,hb2⟩
   go_wp2
   exact hK.out _ _ rfl hb2 nof
  refine steps2_cons ?_ ?_
  ·intro f w1 hb hd Q hK
   clear hd
   have hK:=Lib.hid hK
   have hsz:=hb.size
   go_wp2
   exact hK.out _ _ ⟨_,rfl,hsz,Blk.new _ _ _⟩ ((Below.refl _ _).alloc (Nat.le_refl _) _) (fun _=>⟨_,rfl,Nat.le_refl _⟩)
  trivial
 intro f3 w1 hb hf hne
 obtain ⟨g8,d8,lo8,bk8⟩:NewB w3.heap.size 202 #[.int .u64 0,.int .u64 0,.int .u64 0,.int .u64 0,.int .u64 0] (f3 8) w1:=hf 4 _ _ (by decide) rfl rfl
 have d27:f3 27=.agg #[.int .u64 (Fe.mulE (Fe.mulE r r) v).a0,.int .u64 (Fe.mulE (Fe.mulE r r) v).a1,.int .u64 (Fe.mulE (Fe.mulE r r) v).a2,.int .u64 (Fe.mulE (Fe.mulE r r) v).a3,.int .u64 (Fe.mulE (Fe.mulE r r) v).a4]:=hf 3 _ _ (by decide) rfl rfl
 clear hf hne
 simp only [d8,d27]
 refine wpList_store_blk rfl _ _ _ rfl g8 202 #[.int .u64 0,.int .u64 0,.int .u64 0,.int .u64 0,.int .u64 0] #[.int .u64 (Fe.mulE (Fe.mulE r r) v).a0,.int .u64 (Fe.mulE (Fe.mulE r r) v).a1,.int .u64 (Fe.mulE (Fe.mulE r r) v).a2,.int .u64 (Fe.mulE (Fe.mulE r r) v).a3,.int .u64 (Fe.mulE (Fe.mulE r r) v).a4] rfl rfl bk8 rfl (by kernel_rfl) (by kernel_rfl) ?_
 intro w4 hnew hgr hsz
 refine wpList_nil ?_
 have hlo8:g7<g8:=by omega
 have hU:=(hU.below hb).grown hgr (by simp;omega)
 have hV:=(hV.below hb).grown hgr (by simp;omega)
 have hZ:=(hZ.below hb).grown hgr (by simp;omega)
 have h3:=(h3.below hb).grown hgr (by simp;omega)
 have hR:=(hR.below hb).grown hgr (by simp;omega)
 have hb0:=(hb0.trans (hb.mono hb0.size)).grown hgr (Nat.le_trans hb0.size hb.size) (fun k h=>by injection h;omega)
 have hI:=hnew
 have hws:Fe.W (Fe.mulE (Fe.mulE r r) v):=(Fe.mulE_w _ _)
 clear hgr hsz hb hnew bk8 d8 d27 lo8 hRlt h3
 have hs:Fe.isE r v=Fe.mulE (Fe.mulE r r) v:=rfl
 generalize Fe.mulE (Fe.mulE r r) v=s at *
 replace hs:=Lib.hid hs
 obtain ⟨u0,u1,u2,u3,u4⟩:=blk5 hU
 obtain ⟨s0,s1,s2,s3,s4⟩:=blk5 hI
 go_wp2_with fail
 refine (same_E s u hws hwu _).mono ?_
 rintro e w5 ⟨rfl,hb5⟩
 clear u0 u1 u2 u3 u4 s0 s1 s2 s3 s4
 replace hU:=hU.below hb5
 replace hV:=hV.below hb5
 replace hZ:=hZ.below hb5
 replace hR:=hR.below hb5
 replace hI:=hI.below hb5
 replace hb0:=hb0.trans (hb5.mono hb0.size)
 clear hb5
 rcases Bool.eq_false_or_eq_true (eqE (Fe.canon s) (Fe.canon u)) with he | he
 ·have hval:rootE u v=Fe.finE r∧rootB u v=true:=by
   simp only [rootE,rootB,hr0.out,hs.out,he,if_true,Bool.true_or,and_self]
  replace hval:=Lib.hid hval
  clear hr0 hs hv3
  rw [he]
  obtain ⟨r0,r1,r2,r3,r4⟩:=blk5 hR
  go_wp2_with fail
  refine (odd_E r hwr ⟨(Fe.canon_d r).1.1,Int.le_trans (Int.le_of_lt (Fe.canon_d r).1.2) (by decide)⟩ _).mono ?_
  rintro e w6 ⟨rfl,hb6⟩
  clear r0 r1 r2 r3 r4
  replace hZ:=hZ.below hb6
  replace hR:=hR.below hb6
  replace hb0:=hb0.trans (hb6.mono hb0.size)
  clear hb6 hU hV hI
  by_cases hodd:(Fe.canon r).a0 % 2=1
  ·have hfin:Fe.finE r=Fe.subE ⟨0,0,0,0,0⟩ r:=if_pos hodd
   rw [decide_eq_true hodd]
   replace hfin:=Lib.hid hfin
   clear hodd
   obtain ⟨r0,r1,r2,r3,r4⟩:=blk5 hR
   go_wp2_with fail
   refine (neg_E r _).mono ?_
   rintro e w7 ⟨rfl,hb7⟩
   clear r0 r1 r2 r3 r4
   replace hZ:=hZ.below hb7
   replace hR:=hR.below hb7
   replace hb0:=hb0.trans (hb7.mono hb0.size)
   clear hb7
   generalize Fe.subE ⟨0,0,0,0,0⟩ r=y at *
   rename_i hKs
   refine hKs _ _ ?_
   clear hKs
   refine wpList_store_blk rfl _ _ _ rfl g7 202 _ #[.int .u64 y.a0,.int .u64 y.a1,.int .u64 y.a2,.int .u64 y.a3,.int .u64 y.a4] rfl rfl hR rfl (by kernel_rfl) (by kernel_rfl) ?_
   intro w8 hnew hgr hsz
   refine wpList_nil ?_
   replace hZ:=hZ.grown hgr (by simp;omega)
   replace hb0:=hb0.grown hgr (by have:=hZ.lt;omega) (fun k h=>by injection h;omega)
   replace hR:=hnew
   clear hnew hgr hsz
   obtain ⟨r0,r1,r2,r3,r4⟩:=blk5 hR
   obtain ⟨z0,z1,z2,z3,z4⟩:=blk5 hZ
   have fz:=fun j=>hZ.frozen j
   go_wp2
   refine bodyPost_ret (v:=.tuple #[.agg #[.int .u64 y.a0,.int .u64 y.a1,.int .u64 y.a2,.int .u64 y.a3,.int .u64 y.a4],.bool true]) (by simp [results,Tryz.results252,go_sem,z0,z1,z2,z3,z4]) rfl ?_
   refine ⟨by rw [hval.out.1,hval.out.2,hfin.out],?_⟩
   clear r0 r1 r2 r3 r4 z0 z1 z2 z3 z4 fz
   go_grown
  have hfin:Fe.finE r=r:=if_neg hodd
  rw [decide_eq_false hodd]
  replace hfin:=Lib.hid hfin
  clear hodd
  generalize r=y at *
  obtain ⟨r0,r1,r2,r3,r4⟩:=blk5 hR
  obtain ⟨z0,z1,z2,z3,z4⟩:=blk5 hZ
  have fz:=fun j=>hZ.frozen j
  go_wp2
  refine bodyPost_ret (v:=.tuple #[.agg #[.int .u64 y.a0,.int .u64 y.a1,.int .u64 y.a2,.int .u64 y.a3,.int .u64 y.a4],.bool true]) (by simp [results,Tryz.results252,go_sem,z0,z1,z2,z3,z4]) rfl ?_
  refine ⟨by rw [hval.out.1,hval.out.2,hfin.out],?_⟩
  clear r0 r1 r2 r3 r4 z0 z1 z2 z3 z4 fz
  go_grown
 replace he:=Lib.hid he
 rw [he.out]
 go_wp2
 refine wp_region_grow2 5 (fun k=>(Nat.ble 33 k&&Nat.ble k 37)) _ [] (fun j x' q=>(rt6L u s).getD j (fun _ _=>True) x' q) (fun _=>false) (fun f=>#[.agg #[.int .u64 u.a0,.int .u64 u.a1,.int .u64 u.a2,.int .u64 u.a3,.int .u64 u.a4],.agg #[.int .u64 v.a0,.int .u64 v.a1,.int .u64 v.a2,.int .u64 v.a3,.int .u64 v.a4],.pointer (some ⟨w.heap.size,0,none⟩),.pointer (some ⟨w.heap.size+1,0,none⟩),.pointer (some ⟨w.heap.size+1+1,0,none⟩),.bool false,.pointer (some ⟨g6,0,none⟩),.pointer (some ⟨g7,0,none⟩),.pointer (some ⟨g8,0,none⟩),f1 9,f1 10,f1 11,.agg #[.int .u64 v3.a0,.int .u64 v3.a1,.int .u64 v3.a2,.int .u64 v3.a3,.int .u64 v3.a4],f2 13,f2 14,f2 15,f2 16,f2 17,f2 18,f2 19,f2 20,f2 21,f2 22,.agg #[.int .u64 r.a0,.int .u64 r.a1,.int .u64 r.a2,.int .u64 r.a3,.int .u64 r.a4],f3 24,f3 25,f3 26,.agg #[.int .u64 s.a0,.int .u64 s.a1,.int .u64 s.a2,.int .u64 s.a3,.int .u64 s.a4],undef,.bool false,.agg #[.int .u64 s.a0,.int .u64 s.a1,.int .u64 s.a2,.int .u64 s.a3,.int .u64 s.a4],.agg #[.int .u64 u.a0,.int .u64 u.a1,.int .u64 u.a2,.int .u64 u.a3,.int .u64 u.a4],.bool false,f 33,f 34,f 35,f 36,f 37,undef,undef,undef,undef,undef,undef,undef,undef,undef]) (fun f=>rfl) (by kernel_rfl) (by kernel_rfl) (by kernel_rfl) (by kernel_rfl) (by kernel_rfl) (rt6S _ _) (fun _ _ _ h=>by cases h) ?_ ?_
 ·refine steps2_cons ?_ ?_
  ·intro f w1 hb hd Q hK
   clear hd
   have hK:=Lib.hid hK
   obtain ⟨c0,c1,c2,c3,c4⟩:=blk5 (hI.below hb)
   go_wp2
   exact hK.out _ _ rfl (.refl _ _) nof
  refine steps2_cons ?_ ?_
  ·intro f w1 hb hd Q hK
   clear hd
   have hK:=Lib.hid hK
   obtain ⟨c0,c1,c2,c3,c4⟩:=blk5 (hU.below hb)
   go_wp2
   exact hK.out _ _ rfl (.refl _ _) nof
  refine steps2_cons ?_ ?_
  ·intro f w1 hb hd Q hK
   have e35:f 35=.agg #[.int .u64 u.a0,.int .u64 u.a1,.int .u64 u.a2,.int .u64 u.a3,.int .u64 u.a4]:=hd.1 rfl
   clear hd
   simp only [e35] at hK
   have hK:=Lib.hid hK
   go_wp2_with fail
   refine ((neg_E u) _).mono ?_
   rintro e w2 ⟨rfl,hb2⟩
   go_wp2
   exact hK.out _ _ rfl hb2 nof
  refine steps2_cons ?_ ?_
  ·intro f w1 hb hd Q hK
   have e34:f 34=.agg #[.int .u64 s.a0,.int .u64 s.a1,.int .u64 s.a2,.int .u64 s.a3,.int .u64 s.a4]:=hd.1 rfl
   have e36:f 36=.agg #[.int .u64 (Fe.subE ⟨0,0,0,0,0⟩ u).a0,.int .u64 (Fe.subE ⟨0,0,0,0,0⟩ u).a1,.int .u64 (Fe.subE ⟨0,0,0,0,0⟩ u).a2,.int .u64 (Fe.subE ⟨0,0,0,0,0⟩ u).a3,.int .u64 (Fe.subE ⟨0,0,0,0,0⟩ u).a4]:=hd.2.1 rfl
   clear hd
   simp only [e34,e36] at hK
   have hK:=Lib.hid hK
   go_wp2_with fail
   refine ((same_E s (Fe.subE ⟨0,0,0,0,0⟩ u) hws (Fe.subE_w _ _)) _).mono ?_
   rintro e w2 ⟨rfl,hb2⟩
   go_wp2
   exact hK.out _ _ rfl hb2 nof
  refine steps2_cons ?_ ?_
  ·intro f w1 hb hd Q hK
   have e37:f 37=.bool (eqE (Fe.canon s) (Fe.canon (Fe.subE ⟨0,0,0,0,0⟩ u))):=hd.1 rfl
   clear hd
   simp only [e37] at hK
   have hK:=Lib.hid hK
   go_wp2
   exact hK.out _ _ rfl (.refl _ _) nof
  trivial
 intro f6 w1 hb hf hne
 refine wpList_nil ?_
 have d33:f6 33=.bool (eqE (Fe.canon s) (Fe.canon (Fe.subE ⟨0,0,0,0,0⟩ u))):=hf 4 _ _ (by decide) rfl rfl
 clear hf hne
 simp only [d33]
 replace hU:=hU.below hb
 replace hV:=hV.below hb
 replace hZ:=hZ.below hb
 replace hR:=hR.below hb
 replace hI:=hI.below hb
 replace hb0:=hb0.trans (hb.mono hb0.size)
 clear hb d33
 rcases Bool.eq_false_or_eq_true (eqE (Fe.canon s) (Fe.canon (Fe.subE ⟨0,0,0,0,0⟩ u))) with he2 | he2
 ·have hval:rootE u v=Fe.finE (Fe.turnE r)∧rootB u v=true:=by
   simp only [rootE,rootB,hr0.out,hs.out,he.out,he2,Bool.false_eq_true,if_true,if_false,Bool.or_true,and_self]
  replace hval:=Lib.hid hval
  clear hr0 hs hv3
  simp only [he2]
  clear he he2
  go_wp2
  refine wp_region_grow2 4 (fun k=>(Nat.ble 38 k&&Nat.ble k 41)) _ [] (fun j x' q=>(rt7L r).getD j (fun _ _=>True) x' q) (fun _=>false) (fun f=>#[.agg #[.int .u64 u.a0,.int .u64 u.a1,.int .u64 u.a2,.int .u64 u.a3,.int .u64 u.a4],.agg #[.int .u64 v.a0,.int .u64 v.a1,.int .u64 v.a2,.int .u64 v.a3,.int .u64 v.a4],.pointer (some ⟨w.heap.size,0,none⟩),.pointer (some ⟨w.heap.size+1,0,none⟩),.pointer (some ⟨w.heap.size+1+1,0,none⟩),.bool false,.pointer (some ⟨g6,0,none⟩),.pointer (some ⟨g7,0,none⟩),.pointer (some ⟨g8,0,none⟩),f1 9,f1 10,f1 11,.agg #[.int .u64 v3.a0,.int .u64 v3.a1,.int .u64 v3.a2,.int .u64 v3.a3,.int .u64 v3.a4],f2 13,f2 14,f2 15,f2 16,f2 17,f2 18,f2 19,f2 20,f2 21,f2 22,.agg #[.int .u64 r.a0,.int .u64 r.a1,.int .u64 r.a2,.int .u64 r.a3,.int .u64 r.a4],f3 24,f3 25,f3 26,.agg #[.int .u64 s.a0,.int .u64 s.a1,.int .u64 s.a2,.int .u64 s.a3,.int .u64 s.a4],undef,.bool false,.agg #[.int .u64 s.a0,.int .u64 s.a1,.int .u64 s.a2,.int .u64 s.a3,.int .u64 s.a4],.agg #[.int .u64 u.a0,.int .u64 u.a1,.int .u64 u.a2,.int .u64 u.a3,.int .u64 u.a4],.bool false,.bool true,f6 34,f6 35,f6 36,f6 37,f 38,f 39,f 40,f 41,undef,undef,undef,undef,undef]) (fun f=>rfl) (by kernel_rfl) (by kernel_rfl) (by kernel_rfl) (by kernel_rfl) (by kernel_rfl) (rt7S _) (fun _ _ _ h=>by cases h) ?_ ?_
  ·refine steps2_cons ?_ ?_
   ·intro f w1 hb hd Q hK
    clear hd
    have hK:=Lib.hid hK
    obtain ⟨c0,c1,c2,c3,c4⟩:=blk5 (hR.below hb)
    go_wp2
    exact hK.out _ _ rfl (.refl _ _) nof
   refine steps2_cons ?_ ?_
   ·intro f w1 hb hd Q hK
    clear hd
    have hK:=Lib.hid hK
    go_wp2
    exact hK.out _ _ rfl (.refl _ _) nof
   refine steps2_cons ?_ ?_
   ·intro f w1 hb hd Q hK
    have e39:f 39=.agg #[.int .u64 2,.int .u64 0,.int .u64 0,.int .u64 0,.int .u64 0]:=hd.1 rfl
    clear hd
    simp only [e39] at hK
    have hK:=Lib.hid hK
    go_wp2_with fail
    refine (pow2_E _).mono ?_
    rintro e w2 ⟨rfl,hb2⟩
    go_wp2
    exact hK.out _ _ rfl hb2 nof
   refine steps2_cons ?_ ?_
   ·intro f w1 hb hd Q hK
    have e38:f 38=.agg #[.int .u64 r.a0,.int .u64 r.a1,.int .u64 r.a2,.int .u64 r.a3,.int .u64 r.a4]:=hd.1 rfl
    have e40:f 40=.agg #[.int .u64 (Fe.k2).a0,.int .u64 (Fe.k2).a1,.int .u64 (Fe.k2).a2,.int .u64 (Fe.k2).a3,.int .u64 (Fe.k2).a4]:=hd.2.1 rfl
    clear hd
    simp only [e38,e40] at hK
    have hK:=Lib.hid hK
    go_wp2_with fail
    refine ((mul_E r (Fe.k2) hwr Fe.k2_w) _).mono ?_
    rintro e w2 ⟨rfl,hb2⟩
    go_wp2
    exact hK.out _ _ rfl hb2 nof
   trivial
  intro f7 w1 hb hf hne
  have d41:f7 41=.agg #[.int .u64 (Fe.mulE r (Fe.k2)).a0,.int .u64 (Fe.mulE r (Fe.k2)).a1,.int .u64 (Fe.mulE r (Fe.k2)).a2,.int .u64 (Fe.mulE r (Fe.k2)).a3,.int .u64 (Fe.mulE r (Fe.k2)).a4]:=hf 3 _ _ (by decide) rfl rfl
  clear hf hne
  simp only [d41]
  have htn:Fe.mulE r Fe.k2=Fe.turnE r:=rfl
  rw [htn]
  have hwt:Fe.W (Fe.turnE r):=Fe.mulE_w _ _
  clear htn d41
  replace hZ:=hZ.below hb
  replace hR:=hR.below hb
  replace hb0:=hb0.trans (hb.mono hb0.size)
  clear hb hU hV hI
  refine wpList_store_blk rfl _ _ _ rfl g7 202 _ #[.int .u64 (Fe.turnE r).a0,.int .u64 (Fe.turnE r).a1,.int .u64 (Fe.turnE r).a2,.int .u64 (Fe.turnE r).a3,.int .u64 (Fe.turnE r).a4] rfl rfl hR rfl (by kernel_rfl) (by kernel_rfl) ?_
  intro w9 hnew hgr hsz
  refine wpList_nil ?_
  replace hZ:=hZ.grown hgr (by simp;omega)
  replace hb0:=hb0.grown hgr (by have:=hZ.lt;omega) (fun k h=>by injection h;omega)
  replace hR:=hnew
  clear hnew hgr hsz
  generalize Fe.turnE r=tr at *
  obtain ⟨r0,r1,r2,r3,r4⟩:=blk5 hR
  go_wp2_with fail
  refine (odd_E tr hwt ⟨(Fe.canon_d tr).1.1,Int.le_trans (Int.le_of_lt (Fe.canon_d tr).1.2) (by decide)⟩ _).mono ?_
  rintro e w6 ⟨rfl,hb6⟩
  clear r0 r1 r2 r3 r4
  replace hZ:=hZ.below hb6
  replace hR:=hR.below hb6
  replace hb0:=hb0.trans (hb6.mono hb0.size)
  clear hb6
  by_cases hodd:(Fe.canon tr).a0 % 2=1
  ·have hfin:Fe.finE tr=Fe.subE ⟨0,0,0,0,0⟩ tr:=if_pos hodd
   rw [decide_eq_true hodd]
   replace hfin:=Lib.hid hfin
   clear hodd
   obtain ⟨r0,r1,r2,r3,r4⟩:=blk5 hR
   go_wp2_with fail
   refine (neg_E tr _).mono ?_
   rintro e w7 ⟨rfl,hb7⟩
   clear r0 r1 r2 r3 r4
   replace hZ:=hZ.below hb7
   replace hR:=hR.below hb7
   replace hb0:=hb0.trans (hb7.mono hb0.size)
   clear hb7
   generalize Fe.subE ⟨0,0,0,0,0⟩ tr=y at *
   rename_i hKs
   refine hKs _ _ ?_
   clear hKs
   refine wpList_store_blk rfl _ _ _ rfl g7 202 _ #[.int .u64 y.a0,.int .u64 y.a1,.int .u64 y.a2,.int .u64 y.a3,.int .u64 y.a4] rfl rfl hR rfl (by kernel_rfl) (by kernel_rfl) ?_
   intro w8 hnew hgr hsz
   refine wpList_nil ?_
   replace hZ:=hZ.grown hgr (by simp;omega)
   replace hb0:=hb0.grown hgr (by have:=hZ.lt;omega) (fun k h=>by injection h;omega)
   replace hR:=hnew
   clear hnew hgr hsz
   obtain ⟨r0,r1,r2,r3,r4⟩:=blk5 hR
   obtain ⟨z0,z1,z2,z3,z4⟩:=blk5 hZ
   have fz:=fun j=>hZ.frozen j
   go_wp2
   refine bodyPost_ret (v:=.tuple #[.agg #[.int .u64 y.a0,.int .u64 y.a1,.int .u64 y.a2,.int .u64 y.a3,.int .u64 y.a4],.bool true]) (by simp [results,Tryz.results252,go_sem,z0,z1,z2,z3,z4]) rfl ?_
   refine ⟨by rw [hval.out.1,hval.out.2,hfin.out],?_⟩
   clear r0 r1 r2 r3 r4 z0 z1 z2 z3 z4 fz
   go_grown
  have hfin:Fe.finE tr=tr:=if_neg hodd
  rw [decide_eq_false hodd]
  replace hfin:=Lib.hid hfin
  clear hodd
  generalize tr=y at *
  obtain ⟨r0,r1,r2,r3,r4⟩:=blk5 hR
  obtain ⟨z0,z1,z2,z3,z4⟩:=blk5 hZ
  have fz:=fun j=>hZ.frozen j
  go_wp2
  refine bodyPost_ret (v:=.tuple #[.agg #[.int .u64 y.a0,.int .u64 y.a1,.int .u64 y.a2,.int .u64 y.a3,.int .u64 y.a4],.bool true]) (by simp [results,Tryz.results252,go_sem,z0,z1,z2,z3,z4]) rfl ?_
  refine ⟨by rw [hval.out.1,hval.out.2,hfin.out],?_⟩
  clear r0 r1 r2 r3 r4 z0 z1 z2 z3 z4 fz
  go_grown
 have hval:rootE u v=⟨0,0,0,0,0⟩∧rootB u v=false:=by
  simp only [rootE,rootB,hr0.out,hs.out,he.out,he2,Bool.false_eq_true,if_false,Bool.or_false,and_self]
 replace hval:=Lib.hid hval
 clear hr0 hs hv3
 simp only [he2]
 clear he he2
 obtain ⟨z0,z1,z2,z3,z4⟩:=blk5 hZ
 have fz:=fun j=>hZ.frozen j
 go_wp2
 refine bodyPost_ret (v:=.tuple #[.agg #[.int .u64 (⟨0,0,0,0,0⟩:Fe.E).a0,.int .u64 (⟨0,0,0,0,0⟩:Fe.E).a1,.int .u64 (⟨0,0,0,0,0⟩:Fe.E).a2,.int .u64 (⟨0,0,0,0,0⟩:Fe.E).a3,.int .u64 (⟨0,0,0,0,0⟩:Fe.E).a4],.bool false]) (by simp [results,Tryz.results252,go_sem,z0,z1,z2,z3,z4]) rfl ?_
 refine ⟨by rw [hval.out.1,hval.out.2],?_⟩
 clear z0 z1 z2 z3 z4 fz
 go_grown
end Go.Proofs.YtnopjabcdloepaaGreatDoor
