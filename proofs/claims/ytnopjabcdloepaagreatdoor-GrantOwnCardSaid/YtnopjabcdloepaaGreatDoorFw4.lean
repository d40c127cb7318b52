import Derived.Test.YtnopjabcdloepaaGreatDoorYb
namespace Go.Proofs.YtnopjabcdloepaaGreatDoor
open Go.RowKit
def PostE (x:Fe.E) (w:World) (e:Ending) (w':World):Prop:=e=.returned (.agg #[.int .u64 x.a0,.int .u64 x.a1,.int .u64 x.a2,.int .u64 x.a3,.int .u64 x.a4])∧Below w.heap.size w w'
theorem Post5.to {x:Fe.E} {w w':World} {e:Ending} (h:Post5 x w e w'):PostE x w e w':=by
 obtain ⟨r0,r1,r2,r3,r4,rfl,rfl,hb⟩:=h
 exact ⟨rfl,hb⟩
def PostV (v:Value) (w:World) (e:Ending) (w':World):Prop:=e=.returned v∧Below w.heap.size w w'
theorem one_E (w:World):Calls Tryz.prog 254 #[] w (PostE ⟨1,0,0,0,0⟩ w):=(one_c w).mono fun _ _ h=>h.to
theorem add_E (a b:Fe.E) (w:World):Calls Tryz.prog 255 #[.agg #[.int .u64 a.a0,.int .u64 a.a1,.int .u64 a.a2,.int .u64 a.a3,.int .u64 a.a4],.agg #[.int .u64 b.a0,.int .u64 b.a1,.int .u64 b.a2,.int .u64 b.a3,.int .u64 b.a4]] w (PostE (Fe.addE a b) w):=by
 obtain ⟨a0,a1,a2,a3,a4⟩:=a
 obtain ⟨b0,b1,b2,b3,b4⟩:=b
 exact (add_c _ _ _ _ _ _ _ _ _ _ w).mono fun _ _ h=>h.to
theorem sub_E (a b:Fe.E) (w:World):Calls Tryz.prog 253 #[.agg #[.int .u64 a.a0,.int .u64 a.a1,.int .u64 a.a2,.int .u64 a.a3,.int .u64 a.a4],.agg #[.int .u64 b.a0,.int .u64 b.a1,.int .u64 b.a2,.int .u64 b.a3,.int .u64 b.a4]] w (PostE (Fe.subE a b) w):=by
 obtain ⟨a0,a1,a2,a3,a4⟩:=a
 obtain ⟨b0,b1,b2,b3,b4⟩:=b
 exact (sub_c _ _ _ _ _ _ _ _ _ _ w).mono fun _ _ h=>h.to
theorem mul_E (a b:Fe.E) (ha:Fe.W a) (hb:Fe.W b) (w:World):Calls Tryz.prog 256 #[.agg #[.int .u64 a.a0,.int .u64 a.a1,.int .u64 a.a2,.int .u64 a.a3,.int .u64 a.a4],.agg #[.int .u64 b.a0,.int .u64 b.a1,.int .u64 b.a2,.int .u64 b.a3,.int .u64 b.a4]] w (PostE (Fe.mulE a b) w):=by
 obtain ⟨a0,a1,a2,a3,a4⟩:=a
 obtain ⟨b0,b1,b2,b3,b4⟩:=b
 exact (mul_c _ _ _ _ _ _ _ _ _ _ ha hb w).mono fun _ _ h=>h.to
theorem neg_E (a:Fe.E) (w:World):Calls Tryz.prog 258 #[.agg #[.int .u64 a.a0,.int .u64 a.a1,.int .u64 a.a2,.int .u64 a.a3,.int .u64 a.a4]] w (PostE (Fe.subE ⟨0,0,0,0,0⟩ a) w):=by
 obtain ⟨a0,a1,a2,a3,a4⟩:=a
 exact (neg_c _ _ _ _ _ w).mono fun _ _ h=>h.to
theorem square_E (a:Fe.E) (ha:Fe.W a) (w:World):Calls Tryz.prog 251 #[.agg #[.int .u64 a.a0,.int .u64 a.a1,.int .u64 a.a2,.int .u64 a.a3,.int .u64 a.a4]] w (PostE (Fe.mulE a a) w):=by
 obtain ⟨a0,a1,a2,a3,a4⟩:=a
 exact (square_c _ _ _ _ _ ha w).mono fun _ _ h=>h.to
theorem canonical_E (a:Fe.E) (ha:Fe.W a) (w:World):Calls Tryz.prog 322 #[.agg #[.int .u64 a.a0,.int .u64 a.a1,.int .u64 a.a2,.int .u64 a.a3,.int .u64 a.a4]] w (PostE (Fe.canon a) w):=by
 obtain ⟨a0,a1,a2,a3,a4⟩:=a
 exact (canonical_c _ _ _ _ _ ha w).mono fun _ _ h=>h.to
theorem u64_under:Tryz.prog.underlying 200=some (.int .u64):=by kernel_rfl
theorem elem_under:Tryz.prog.underlying 202=some (.array 5 200):=by kernel_rfl
theorem u64_size:(Tryz.prog.info? 200).map (·.size)=some 1:=by kernel_rfl
def lst (x:Fe.E):List Int:=[x.a0,x.a1,x.a2,x.a3,x.a4]
def eqE (x y:Fe.E):Bool:=decide (lst x=lst y)
theorem eqE_iff {x y:Fe.E}:eqE x y=true↔x=y:=by
 obtain ⟨x0,x1,x2,x3,x4⟩:=x
 obtain ⟨y0,y1,y2,y3,y4⟩:=y
 simp [eqE,lst]
theorem run_eql_E (x y:Fe.E) (w:World):(binOp .eql 202 (.agg #[.int .u64 x.a0,.int .u64 x.a1,.int .u64 x.a2,.int .u64 x.a3,.int .u64 x.a4]) (.agg #[.int .u64 y.a0,.int .u64 y.a1,.int .u64 y.a2,.int .u64 y.a3,.int .u64 y.a4])).run Tryz.prog w=.ok (.bool (eqE x y)) w :=
 run_eql_ints w 5 elem_under u64_under u64_size (lst x) (lst y) rfl rfl
theorem run_neq_E (x y:Fe.E) (w:World):(binOp .neq 202 (.agg #[.int .u64 x.a0,.int .u64 x.a1,.int .u64 x.a2,.int .u64 x.a3,.int .u64 x.a4]) (.agg #[.int .u64 y.a0,.int .u64 y.a1,.int .u64 y.a2,.int .u64 y.a3,.int .u64 y.a4])).run Tryz.prog w=.ok (.bool (!eqE x y)) w :=
 run_neq_ints w 5 elem_under u64_under u64_size (lst x) (lst y) rfl rfl
def sameL (a b:Fe.E):List (Value→World→Prop):=[
 Eq1 (.agg #[.int .u64 a.a0,.int .u64 a.a1,.int .u64 a.a2,.int .u64 a.a3,.int .u64 a.a4]),
 Eq1 (.agg #[.int .u64 (Fe.canon a).a0,.int .u64 (Fe.canon a).a1,.int .u64 (Fe.canon a).a2,.int .u64 (Fe.canon a).a3,.int .u64 (Fe.canon a).a4]),
 Eq1 (.agg #[.int .u64 b.a0,.int .u64 b.a1,.int .u64 b.a2,.int .u64 b.a3,.int .u64 b.a4]),
 Eq1 (.agg #[.int .u64 (Fe.canon b).a0,.int .u64 (Fe.canon b).a1,.int .u64 (Fe.canon b).a2,.int .u64 (Fe.canon b).a3,.int .u64 (Fe.canon b).a4]),
 Eq1 (.bool (eqE (Fe.canon a) (Fe.canon b))),
 Eq1 (.bool (eqE (Fe.canon a) (Fe.canon b)))]
theorem sameS (a b:Fe.E):∀ j x' q q',(sameL a b).getD j (fun _ _=>True) x' q→Below q.heap.size q q'→(sameL a b).getD j (fun _ _=>True) x' q':=by
 refine sta_all _ ?_
 simp only [sameL,List.mem_cons,forall_eq_or_imp,List.not_mem_nil,false_implies,implies_true,and_true]
 exact ⟨sta_eq _,sta_eq _,sta_eq _,sta_eq _,sta_eq _,sta_eq _⟩
set_option maxRecDepth 20000 in
set_option maxHeartbeats 400000 in
theorem same_E (a b:Fe.E) (hwa:Fe.W a) (hwb:Fe.W b) (w:World):Calls Tryz.prog 259 #[.agg #[.int .u64 a.a0,.int .u64 a.a1,.int .u64 a.a2,.int .u64 a.a3,.int .u64 a.a4],.agg #[.int .u64 b.a0,.int .u64 b.a1,.int .u64 b.a2,.int .u64 b.a3,.int .u64 b.a4]] w (PostV (.bool (eqE (Fe.canon a) (Fe.canon b))) w):=by
 have heq:=run_eql_E (Fe.canon a) (Fe.canon b)
 go_enter Tryz.func259,Tryz.ntmps259
 go_wp2
 refine at_world (fun W0 hW=>?_)
 have hA:Blk W0 w.heap.size 202 #[.int .u64 a.a0,.int .u64 a.a1,.int .u64 a.a2,.int .u64 a.a3,.int .u64 a.a4]:=by rw [hW];exact (Blk.new _ _ _).alloc _
 have hB:Blk W0 (w.heap.size+1) 202 #[.int .u64 b.a0,.int .u64 b.a1,.int .u64 b.a2,.int .u64 b.a3,.int .u64 b.a4]:=by rw [hW];exact blk_at (by simp) (Blk.new _ _ _)
 have hb0:Below w.heap.size w W0:=by rw [hW];go_grown
 clear hW
 refine wp_region_grow2 6 (fun k=>(Nat.ble 4 k&&Nat.ble k 9)) _ [] (fun j x' q=>(sameL a b).getD j (fun _ _=>True) x' q) (fun _=>false) (fun f=>#[.agg #[.int .u64 a.a0,.int .u64 a.a1,.int .u64 a.a2,.int .u64 a.a3,.int .u64 a.a4],.agg #[.int .u64 b.a0,.int .u64 b.a1,.int .u64 b.a2,.int .u64 b.a3,.int .u64 b.a4],.pointer (some ⟨w.heap.size,0,none⟩),.pointer (some ⟨w.heap.size+1,0,none⟩),f 4,f 5,f 6,f 7,f 8,f 9]) (fun f=>rfl) (by kernel_rfl) (by kernel_rfl) (by kernel_rfl) (by kernel_rfl) (by kernel_rfl) (sameS _ _) (fun _ _ _ h=>by cases h) ?_ ?_
 ·refine steps2_cons ?_ ?_
  ·intro f w1 hb hd Q hK
   clear hd
   have hK:=Lib.hid hK
   obtain ⟨c0,c1,c2,c3,c4⟩:=blk5 (hA.below hb)
   go_wp2
   exact hK.out _ _ rfl (.refl _ _) nof
  refine steps2_cons ?_ ?_
  ·intro f w1 hb hd Q hK
   have e5:f 5=.agg #[.int .u64 a.a0,.int .u64 a.a1,.int .u64 a.a2,.int .u64 a.a3,.int .u64 a.a4]:=hd.1 rfl
   clear hd
   simp only [e5] at hK
   have hK:=Lib.hid hK
   go_wp2_with fail
   refine ((canonical_E a hwa) _).mono ?_
   rintro e w2 ⟨rfl,hb2⟩
   go_wp2
   exact hK.out _ _ rfl hb2 nof
  refine steps2_cons ?_ ?_
  ·intro f w1 hb hd Q hK
   clear hd
   have hK:=Lib.hid hK
   obtain ⟨c0,c1,c2,c3,c4⟩:=blk5 (hB.below hb)
   go_wp2
   exact hK.out _ _ rfl (.refl _ _) nof
  refine steps2_cons ?_ ?_
  ·intro f w1 hb hd Q hK
   have e7:f 7=.agg #[.int .u64 b.a0,.int .u64 b.a1,.int .u64 b.a2,.int .u64 b.a3,.int .u64 b.a4]:=hd.1 rfl
   clear hd
   simp only [e7] at hK
   have hK:=Lib.hid hK
   go_wp2_with fail
   refine ((canonical_E b hwb) _).mono ?_
   rintro e w2 ⟨rfl,hb2⟩
   go_wp2
   exact hK.out _ _ rfl hb2 nof
  refine steps2_cons ?_ ?_
  ·intro f w1 hb hd Q hK
   have e6:f 6=.agg #[.int .u64 (Fe.canon a).a0,.int .u64 (Fe.canon a).a1,.int .u64 (Fe.canon a).a2,.int .u64 (Fe.canon a).a3,.int .u64 (Fe.canon a).a4]:=hd.1 rfl
   have e8:f 8=.agg #[.int .u64 (Fe.canon b).a0,.int .u64 (Fe.canon b).a1,.int .u64 (Fe.canon b).a2,.int .u64 (Fe.canon b).a3,.int .u64 (Fe.canon b).a4]:=hd.2.1 rfl
   clear hd
   simp only [e6,e8] at hK
   have hK:=Lib.hid hK
   go_wp2
   exact hK.out _ _ rfl (.refl _ _) nof
  refine steps2_cons ?_ ?_
  ·intro f w1 hb hd Q hK
   have e9:f 9=.bool (eqE (Fe.canon a) (Fe.canon b)):=hd.1 rfl
   clear hd
   simp only [e9] at hK
   have hK:=Lib.hid hK
   go_wp2
   exact hK.out _ _ rfl (.refl _ _) nof
  trivial
 intro f w1 hb hf hne
 refine wpList_nil ?_
 have d4:f 4=.bool (eqE (Fe.canon a) (Fe.canon b)):=hf 5 _ _ (by decide) rfl rfl
 clear hf hne
 simp only [d4]
 go_wp2
 go_returns
 exact ⟨rfl,hb0.trans (hb.mono hb0.size)⟩
end Go.Proofs.YtnopjabcdloepaaGreatDoor
