import Derived.Test.YtnopjabcdloepaaGreatDoorYa
namespace Go.Proofs.YtnopjabcdloepaaGreatDoor
open Go.RowKit
def Eqv (x:Value):Value→World→Prop:=fun v _=>v=x
def Sl10 (x0 y0 x1 y1 x2 y2 x3 y3 x4 y4:Int):Value→World→Prop:=fun v w=>∃ g,v=.slice (some ⟨g,0,none⟩) 10 10∧g<w.heap.size∧w.heap[g]?=some (.cells #[.int .u64 x0,.int .u64 y0,.int .u64 x1,.int .u64 y1,.int .u64 x2,.int .u64 y2,.int .u64 x3,.int .u64 y3,.int .u64 x4,.int .u64 y4] 200 (0,0))
def Own10 (B0:Nat):Value→World→Prop:=fun v w=>∃ g,v=.pointer (some ⟨g,0,none⟩)∧B0≤g∧w.heap[g]?=some (.cells #[.int .u64 0,.int .u64 0,.int .u64 0,.int .u64 0,.int .u64 0,.int .u64 0,.int .u64 0,.int .u64 0,.int .u64 0,.int .u64 0] 395 (0,0))
def Stable (R:Value→World→Prop):Prop:=∀ v w w',R v w→Below w.heap.size w w'→R v w'
theorem stable_eqv (x:Value):Stable (Eqv x):=fun _ _ _ h _=>h
theorem heap_lt {w:World} {g:Nat} {o:Obj} (h:w.heap[g]?=some o):g<w.heap.size:=(Array.getElem?_eq_some_iff.1 h).1
theorem stable_sl10 (x0 y0 x1 y1 x2 y2 x3 y3 x4 y4:Int):Stable (Sl10 x0 y0 x1 y1 x2 y2 x3 y3 x4 y4):=fun _ _ _ ⟨g,h1,h2,h3⟩ hb=>⟨g,h1,Nat.lt_of_lt_of_le h2 hb.size,(hb.block g h2).trans h3⟩
theorem stable_own10 (B0:Nat):Stable (Own10 B0):=fun _ _ _ ⟨g,h1,h2,h3⟩ hb=>⟨g,h1,h2,(hb.block g (heap_lt h3)).trans h3⟩
theorem partsT_c (T:Int) (h:T128 T) (w:World) :
  Calls Tryz.prog 326 #[.agg #[.int .u64 (HiW T),.int .u64 (LoW T)]] w fun e w' =>
   e=.returned (.tuple #[.int .u64 (Fe.lw T),.int .u64 (Fe.up T)])∧w'=(w.alloc (.cells #[.int .u64 (HiW T),.int .u64 (LoW T)] 393)).drew:=by
 refine (parts_c (HiW T) (LoW T) ?_ ?_ w).mono ?_
 ·unfold HiW;unfold T128 at h;omega
 ·unfold LoW;omega
 rintro e w' ⟨rfl,rfl⟩
 refine ⟨?_,rfl⟩
 have e1:LoW T % 2251799813685248=Fe.lw T:=by unfold LoW Fe.lw;omega
 have e2:HiW T*18446744073709551616+LoW T=T:=by unfold HiW LoW;omega
 rw [e1,e2]
 rfl
theorem up_u (T:Int):0≤Fe.up T∧Fe.up T≤18446744073709551615:=by unfold Fe.up Fe.wr;omega
theorem mul_last (u:Int) (h:0≤u∧u≤18446744073709551615) :
  bits .and .u64 (u*19 % 18446744073709551616) 2251799813685247=u*19 % 18446744073709551616 % 2251799813685248 ∧
  bits .or .u64 (IntKind.u64.wrap (u*19 / 18446744073709551616*8192)) (u*19 % 18446744073709551616 / 2251799813685248)=Fe.wr (u*19 / 2251799813685248):=by
 refine ⟨and51 (by omega),?_⟩
 rw [parts_hi (by omega) (by omega)]
 congr 2
 omega
theorem blk10 {w:World} {g:Nat} {t:TypeId} {x0 x1 x2 x3 x4 x5 x6 x7 x8 x9:Value} (h:Blk w g t #[x0,x1,x2,x3,x4,x5,x6,x7,x8,x9]):w.cell? ⟨g,0,none⟩=some x0∧w.cell? ⟨g,1,none⟩=some x1∧w.cell? ⟨g,2,none⟩=some x2∧w.cell? ⟨g,3,none⟩=some x3∧w.cell? ⟨g,4,none⟩=some x4∧w.cell? ⟨g,5,none⟩=some x5∧w.cell? ⟨g,6,none⟩=some x6∧w.cell? ⟨g,7,none⟩=some x7∧w.cell? ⟨g,8,none⟩=some x8∧w.cell? ⟨g,9,none⟩=some x9 :=
 ⟨h.cell 0,h.cell 1,h.cell 2,h.cell 3,h.cell 4,h.cell 5,h.cell 6,h.cell 7,h.cell 8,h.cell 9⟩
theorem blk5 {w:World} {g:Nat} {t:TypeId} {x0 x1 x2 x3 x4:Value} (h:Blk w g t #[x0,x1,x2,x3,x4]):w.cell? ⟨g,0,none⟩=some x0∧w.cell? ⟨g,1,none⟩=some x1∧w.cell? ⟨g,2,none⟩=some x2∧w.cell? ⟨g,3,none⟩=some x3∧w.cell? ⟨g,4,none⟩=some x4 :=
 ⟨h.cell 0,h.cell 1,h.cell 2,h.cell 3,h.cell 4⟩
theorem stepsOk_cons {P:Program} {l:List Oper} {F:(Nat→Value)→Array Value} {D:List Deferred} {w0:World} {Ψ:Nat→Value→World→Prop} {i:Nat} {o:Oper} {r:List Oper}
  (h:StepOk P l F D w0 Ψ i o) (h2:StepsOk P l F D w0 Ψ (i+1) r):StepsOk P l F D w0 Ψ i (o::r):=⟨h,h2⟩
theorem u64_wrap (x:Int):U64 (IntKind.u64.wrap x):=by unfold U64;rw [IntKind.wrap_u64];omega
def mulL (A B N:Nat) (a0 a1 a2 a3 a4 b0 b1 b2 b3 b4 _n0 n1 n2 n3 n4:Int) (B0:Nat):List (Value→World→Prop):=[
 Eqv (.pointer (some ⟨A,0,none⟩)),
 Eqv (.int .u64 a0),
 Eqv (.pointer (some ⟨B,0,none⟩)),
 Eqv (.int .u64 b0),
 Eqv (.pointer (some ⟨A,1,none⟩)),
 Eqv (.int .u64 a1),
 Eqv (.pointer (some ⟨N,4,none⟩)),
 Eqv (.int .u64 n4),
 Eqv (.pointer (some ⟨A,2,none⟩)),
 Eqv (.int .u64 a2),
 Eqv (.pointer (some ⟨N,3,none⟩)),
 Eqv (.int .u64 n3),
 Eqv (.pointer (some ⟨A,3,none⟩)),
 Eqv (.int .u64 a3),
 Eqv (.pointer (some ⟨N,2,none⟩)),
 Eqv (.int .u64 n2),
 Eqv (.pointer (some ⟨A,4,none⟩)),
 Eqv (.int .u64 a4),
 Eqv (.pointer (some ⟨N,1,none⟩)),
 Eqv (.int .u64 n1),
 Sl10 a0 b0 a1 n4 a2 n3 a3 n2 a4 n1,
 Eqv (.agg #[.int .u64 (HiW (tot5 a0 b0 a1 n4 a2 n3 a3 n2 a4 n1)),.int .u64 (LoW (tot5 a0 b0 a1 n4 a2 n3 a3 n2 a4 n1))]),
 Eqv (.pointer (some ⟨A,0,none⟩)),
 Eqv (.int .u64 a0),
 Eqv (.pointer (some ⟨B,1,none⟩)),
 Eqv (.int .u64 b1),
 Eqv (.pointer (some ⟨A,1,none⟩)),
 Eqv (.int .u64 a1),
 Eqv (.pointer (some ⟨B,0,none⟩)),
 Eqv (.int .u64 b0),
 Eqv (.pointer (some ⟨A,2,none⟩)),
 Eqv (.int .u64 a2),
 Eqv (.pointer (some ⟨N,4,none⟩)),
 Eqv (.int .u64 n4),
 Eqv (.pointer (some ⟨A,3,none⟩)),
 Eqv (.int .u64 a3),
 Eqv (.pointer (some ⟨N,3,none⟩)),
 Eqv (.int .u64 n3),
 Eqv (.pointer (some ⟨A,4,none⟩)),
 Eqv (.int .u64 a4),
 Eqv (.pointer (some ⟨N,2,none⟩)),
 Eqv (.int .u64 n2),
 Sl10 a0 b1 a1 b0 a2 n4 a3 n3 a4 n2,
 Eqv (.agg #[.int .u64 (HiW (tot5 a0 b1 a1 b0 a2 n4 a3 n3 a4 n2)),.int .u64 (LoW (tot5 a0 b1 a1 b0 a2 n4 a3 n3 a4 n2))]),
 Eqv (.pointer (some ⟨A,0,none⟩)),
 Eqv (.int .u64 a0),
 Eqv (.pointer (some ⟨B,2,none⟩)),
 Eqv (.int .u64 b2),
 Eqv (.pointer (some ⟨A,1,none⟩)),
 Eqv (.int .u64 a1),
 Eqv (.pointer (some ⟨B,1,none⟩)),
 Eqv (.int .u64 b1),
 Eqv (.pointer (some ⟨A,2,none⟩)),
 Eqv (.int .u64 a2),
 Eqv (.pointer (some ⟨B,0,none⟩)),
 Eqv (.int .u64 b0),
 Eqv (.pointer (some ⟨A,3,none⟩)),
 Eqv (.int .u64 a3),
 Eqv (.pointer (some ⟨N,4,none⟩)),
 Eqv (.int .u64 n4),
 Eqv (.pointer (some ⟨A,4,none⟩)),
 Eqv (.int .u64 a4),
 Eqv (.pointer (some ⟨N,3,none⟩)),
 Eqv (.int .u64 n3),
 Sl10 a0 b2 a1 b1 a2 b0 a3 n4 a4 n3,
 Eqv (.agg #[.int .u64 (HiW (tot5 a0 b2 a1 b1 a2 b0 a3 n4 a4 n3)),.int .u64 (LoW (tot5 a0 b2 a1 b1 a2 b0 a3 n4 a4 n3))]),
 Eqv (.pointer (some ⟨A,0,none⟩)),
 Eqv (.int .u64 a0),
 Eqv (.pointer (some ⟨B,3,none⟩)),
 Eqv (.int .u64 b3),
 Eqv (.pointer (some ⟨A,1,none⟩)),
 Eqv (.int .u64 a1),
 Eqv (.pointer (some ⟨B,2,none⟩)),
 Eqv (.int .u64 b2),
 Eqv (.pointer (some ⟨A,2,none⟩)),
 Eqv (.int .u64 a2),
 Eqv (.pointer (some ⟨B,1,none⟩)),
 Eqv (.int .u64 b1),
 Eqv (.pointer (some ⟨A,3,none⟩)),
 Eqv (.int .u64 a3),
 Eqv (.pointer (some ⟨B,0,none⟩)),
 Eqv (.int .u64 b0),
 Eqv (.pointer (some ⟨A,4,none⟩)),
 Eqv (.int .u64 a4),
 Eqv (.pointer (some ⟨N,4,none⟩)),
 Eqv (.int .u64 n4),
 Sl10 a0 b3 a1 b2 a2 b1 a3 b0 a4 n4,
 Eqv (.agg #[.int .u64 (HiW (tot5 a0 b3 a1 b2 a2 b1 a3 b0 a4 n4)),.int .u64 (LoW (tot5 a0 b3 a1 b2 a2 b1 a3 b0 a4 n4))]),
 Eqv (.pointer (some ⟨A,0,none⟩)),
 Eqv (.int .u64 a0),
 Eqv (.pointer (some ⟨B,4,none⟩)),
 Eqv (.int .u64 b4),
 Eqv (.pointer (some ⟨A,1,none⟩)),
 Eqv (.int .u64 a1),
 Eqv (.pointer (some ⟨B,3,none⟩)),
 Eqv (.int .u64 b3),
 Eqv (.pointer (some ⟨A,2,none⟩)),
 Eqv (.int .u64 a2),
 Eqv (.pointer (some ⟨B,2,none⟩)),
 Eqv (.int .u64 b2),
 Eqv (.pointer (some ⟨A,3,none⟩)),
 Eqv (.int .u64 a3),
 Eqv (.pointer (some ⟨B,1,none⟩)),
 Eqv (.int .u64 b1),
 Eqv (.pointer (some ⟨A,4,none⟩)),
 Eqv (.int .u64 a4),
 Eqv (.pointer (some ⟨B,0,none⟩)),
 Eqv (.int .u64 b0),
 Sl10 a0 b4 a1 b3 a2 b2 a3 b1 a4 b0,
 Eqv (.agg #[.int .u64 (HiW (tot5 a0 b4 a1 b3 a2 b2 a3 b1 a4 b0)),.int .u64 (LoW (tot5 a0 b4 a1 b3 a2 b2 a3 b1 a4 b0))]),
 Eqv (.agg #[.int .u64 (HiW (tot5 a0 b0 a1 n4 a2 n3 a3 n2 a4 n1)),.int .u64 (LoW (tot5 a0 b0 a1 n4 a2 n3 a3 n2 a4 n1)),.int .u64 (HiW (tot5 a0 b1 a1 b0 a2 n4 a3 n3 a4 n2)),.int .u64 (LoW (tot5 a0 b1 a1 b0 a2 n4 a3 n3 a4 n2)),.int .u64 (HiW (tot5 a0 b2 a1 b1 a2 b0 a3 n4 a4 n3)),.int .u64 (LoW (tot5 a0 b2 a1 b1 a2 b0 a3 n4 a4 n3)),.int .u64 (HiW (tot5 a0 b3 a1 b2 a2 b1 a3 b0 a4 n4)),.int .u64 (LoW (tot5 a0 b3 a1 b2 a2 b1 a3 b0 a4 n4)),.int .u64 (HiW (tot5 a0 b4 a1 b3 a2 b2 a3 b1 a4 b0)),.int .u64 (LoW (tot5 a0 b4 a1 b3 a2 b2 a3 b1 a4 b0))]),
 Own10 B0]
def mulP (A B N:Nat) (a0 a1 a2 a3 a4 b0 b1 b2 b3 b4 n0 n1 n2 n3 n4:Int) (B0:Nat) (j:Nat) (v:Value) (w:World):Prop:=(mulL A B N a0 a1 a2 a3 a4 b0 b1 b2 b3 b4 n0 n1 n2 n3 n4 B0).getD j (fun _ _=>True) v w
theorem stable_all:∀ (l:List (Value→World→Prop)),(∀ R,R∈l→Stable R)→∀ j v w w',l.getD j (fun _ _=>True) v w→Below w.heap.size w w'→l.getD j (fun _ _=>True) v w'
 | [],_,_,_,_,_,_,_=>by simp
 | R::l,h,0,v,w,w',h1,hb=>h R (List.mem_cons_self ..) v w w' h1 hb
 | R::l,h,j+1,v,w,w',h1,hb=>stable_all l (fun R' hR'=>h R' (List.mem_cons_of_mem _ hR')) j v w w' h1 hb
theorem mulP_stab (A B N:Nat) (a0 a1 a2 a3 a4 b0 b1 b2 b3 b4 n0 n1 n2 n3 n4:Int) (B0:Nat):∀ j v w w',mulP A B N a0 a1 a2 a3 a4 b0 b1 b2 b3 b4 n0 n1 n2 n3 n4 B0 j v w→Below w.heap.size w w'→mulP A B N a0 a1 a2 a3 a4 b0 b1 b2 b3 b4 n0 n1 n2 n3 n4 B0 j v w':=by
 refine stable_all _ ?_
 simp only [mulL,List.mem_cons,forall_eq_or_imp,List.not_mem_nil,false_implies,implies_true,and_true]
 exact ⟨stable_eqv _,stable_eqv _,stable_eqv _,stable_eqv _,stable_eqv _,stable_eqv _,stable_eqv _,stable_eqv _,stable_eqv _,stable_eqv _,stable_eqv _,stable_eqv _,stable_eqv _,stable_eqv _,stable_eqv _,stable_eqv _,stable_eqv _,stable_eqv _,stable_eqv _,stable_eqv _,stable_sl10 _ _ _ _ _ _ _ _ _ _,stable_eqv _,stable_eqv _,stable_eqv _,stable_eqv _,stable_eqv _,stable_eqv _,stable_eqv _,stable_eqv _,stable_eqv _,stable_eqv _,stable_eqv _,stable_eqv _,stable_eqv _,stable_eqv _,stable_eqv _,stable_eqv _,stable_eqv _,stable_eqv _,stable_eqv _,stable_eqv _,stable_eqv _,stable_sl10 _ _ _ _ _ _ _ _ _ _,stable_eqv _,stable_eqv _,stable_eqv _,stable_eqv _,stable_eqv _,stable_eqv _,stable_eqv _,stable_eqv _,stable_eqv _,stable_eqv _,stable_eqv _,stable_eqv _,stable_eqv _,stable_eqv _,stable_eqv _,stable_eqv _,stable_eqv _,stable_eqv _,stable_eqv _,stable_eqv _,stable_eqv _,stable_sl10 _ _ _ _ _ _ _ _ _ _,stable_eqv _,stable_eqv _,stable_eqv _,stable_eqv _,stable_eqv _,stable_eqv _,stable_eqv _,stable_eqv _,stable_eqv _,stable_eqv _,stable_eqv _,stable_eqv _,stable_eqv _,stable_eqv _,stable_eqv _,stable_eqv _,stable_eqv _,stable_eqv _,stable_eqv _,stable_eqv _,stable_eqv _,stable_sl10 _ _ _ _ _ _ _ _ _ _,stable_eqv _,stable_eqv _,stable_eqv _,stable_eqv _,stable_eqv _,stable_eqv _,stable_eqv _,stable_eqv _,stable_eqv _,stable_eqv _,stable_eqv _,stable_eqv _,stable_eqv _,stable_eqv _,stable_eqv _,stable_eqv _,stable_eqv _,stable_eqv _,stable_eqv _,stable_eqv _,stable_eqv _,stable_sl10 _ _ _ _ _ _ _ _ _ _,stable_eqv _,stable_eqv _,stable_own10 _⟩
set_option maxRecDepth 100000 in
set_option maxRecDepth 20000 in
set_option maxHeartbeats 4000000 in
theorem mul_c (a0 a1 a2 a3 a4 b0 b1 b2 b3 b4:Int) (hwa:Fe.W ⟨a0,a1,a2,a3,a4⟩) (hwb:Fe.W ⟨b0,b1,b2,b3,b4⟩) (w:World) :
  Calls Tryz.prog 256 #[.agg #[.int .u64 a0,.int .u64 a1,.int .u64 a2,.int .u64 a3,.int .u64 a4],.agg #[.int .u64 b0,.int .u64 b1,.int .u64 b2,.int .u64 b3,.int .u64 b4]] w (Post5 (Fe.mulE ⟨a0,a1,a2,a3,a4⟩ ⟨b0,b1,b2,b3,b4⟩) w):=by
 go_enter Tryz.func256,Tryz.ntmps256
 go_wp2
 refine wp_loop_rounds 6 ?_
 rw [rounds_succ]
 go_wp2
 rw [rounds_succ]
 go_wp2
 rw [rounds_succ]
 go_wp2
 rw [rounds_succ]
 go_wp2
 rw [rounds_succ]
 go_wp2
 rw [rounds_succ]
 go_wp2_with fail
 refine at_world (fun W0 hW=>?_)
 have hW0:=Lib.hid hW
 clear hW
 refine wp_region_grow 112 7 136 _ _ (mulP w.heap.size (w.heap.size+1) (w.heap.size+1+1+1) a0 a1 a2 a3 a4 b0 b1 b2 b3 b4 (IntKind.u64.wrap (19*b0)) (IntKind.u64.wrap (19*b1)) (IntKind.u64.wrap (19*b2)) (IntKind.u64.wrap (19*b3)) (IntKind.u64.wrap (19*b4)) W0.heap.size)
  (fun f=>#[.agg #[.int .u64 a0,.int .u64 a1,.int .u64 a2,.int .u64 a3,.int .u64 a4],.agg #[.int .u64 b0,.int .u64 b1,.int .u64 b2,.int .u64 b3,.int .u64 b4],.pointer (some ⟨w.heap.size,0,none⟩),.pointer (some ⟨w.heap.size+1,0,none⟩),.pointer (some ⟨w.heap.size+1+1,0,none⟩),.pointer (some ⟨w.heap.size+1+1+1,0,none⟩),.int .i64 4,f 7,f 8,f 9,f 10,f 11,f 12,f 13,f 14,f 15,f 16,f 17,f 18,f 19,f 20,f 21,f 22,f 23,f 24,f 25,f 26,f 27,f 28,f 29,f 30,f 31,f 32,f 33,f 34,f 35,f 36,f 37,f 38,f 39,f 40,f 41,f 42,f 43,f 44,f 45,f 46,f 47,f 48,f 49,f 50,f 51,f 52,f 53,f 54,f 55,f 56,f 57,f 58,f 59,f 60,f 61,f 62,f 63,f 64,f 65,f 66,f 67,f 68,f 69,f 70,f 71,f 72,f 73,f 74,f 75,f 76,f 77,f 78,f 79,f 80,f 81,f 82,f 83,f 84,f 85,f 86,f 87,f 88,f 89,f 90,f 91,f 92,f 93,f 94,f 95,f 96,f 97,f 98,f 99,f 100,f 101,f 102,f 103,f 104,f 105,f 106,f 107,f 108,f 109,f 110,f 111,f 112,f 113,f 114,f 115,f 116,f 117,f 118,f 119,f 120,f 121,f 122,f 123,f 124,f 125,f 126,f 127,f 128,f 129,f 130,f 131,f 132,f 133,f 134,f 135,undef,undef,undef,undef,undef,undef,undef,undef,undef,undef,undef,undef,undef,undef,undef,undef,undef,undef,undef,undef,undef,undef,undef,undef,undef,undef,undef,undef,undef,undef,undef,undef,undef,undef,undef,undef,undef,undef,undef,undef,undef,undef,undef,undef,undef,undef,undef,undef,undef,undef,undef,undef,undef,undef]) (fun f=>rfl) (by kernel_rfl) (by kernel_rfl) (by kernel_rfl) (by kernel_rfl) (by kernel_rfl) (mulP_stab _ _ _ _ _ _ _ _ _ _ _ _ _ _ _ _ _ _ _) ?_ ?_
 ·have hA:Arr5 W0 w.heap.size a0 a1 a2 a3 a4:=by rw [hW0.out];simp [Arr5,go_sem];try omega
  have hB:Arr5 W0 (w.heap.size+1) b0 b1 b2 b3 b4:=by rw [hW0.out];simp [Arr5,go_sem];try omega
  have hN:Arr5 W0 (w.heap.size+1+1+1) (IntKind.u64.wrap (19*b0)) (IntKind.u64.wrap (19*b1)) (IntKind.u64.wrap (19*b2)) (IntKind.u64.wrap (19*b3)) (IntKind.u64.wrap (19*b4)):=by rw [hW0.out];simp [Arr5,go_sem];try omega
  clear hW0
  have ua0:U64 a0:=hwa.1
  have ua1:U64 a1:=hwa.2.1
  have ua2:U64 a2:=hwa.2.2.1
  have ua3:U64 a3:=hwa.2.2.2.1
  have ua4:U64 a4:=hwa.2.2.2.2
  have ub0:U64 b0:=hwb.1
  have ub1:U64 b1:=hwb.2.1
  have ub2:U64 b2:=hwb.2.2.1
  have ub3:U64 b3:=hwb.2.2.2.1
  have ub4:U64 b4:=hwb.2.2.2.2
  have un0:U64 (IntKind.u64.wrap (19*b0)):=u64_wrap _
  have un1:U64 (IntKind.u64.wrap (19*b1)):=u64_wrap _
  have un2:U64 (IntKind.u64.wrap (19*b2)):=u64_wrap _
  have un3:U64 (IntKind.u64.wrap (19*b3)):=u64_wrap _
  have un4:U64 (IntKind.u64.wrap (19*b4)):=u64_wrap _
  refine stepsOk_cons ?_ ?_
  ·intro f w1 hb hd Q hK
   clear hd
   have hK:=Lib.hid hK
   go_wp2
   exact hK.out _ _ rfl (.refl _ _)
  refine stepsOk_cons ?_ ?_
  ·intro f w1 hb hd Q hK
   have d0:f 25=.pointer (some ⟨w.heap.size,0,none⟩):=hd.1 rfl
   clear hd
   simp only [d0] at hK
   have hK:=Lib.hid hK
   obtain ⟨_,c0,c1,c2,c3,c4⟩:=hA.below hb
   go_wp2
   exact hK.out _ _ rfl (.refl _ _)
  refine stepsOk_cons ?_ ?_
  ·intro f w1 hb hd Q hK
   clear hd
   have hK:=Lib.hid hK
   go_wp2
   exact hK.out _ _ rfl (.refl _ _)
  refine stepsOk_cons ?_ ?_
  ·intro f w1 hb hd Q hK
   have d0:f 27=.pointer (some ⟨w.heap.size+1,0,none⟩):=hd.1 rfl
   clear hd
   simp only [d0] at hK
   have hK:=Lib.hid hK
   obtain ⟨_,c0,c1,c2,c3,c4⟩:=hB.below hb
   go_wp2
   exact hK.out _ _ rfl (.refl _ _)
  refine stepsOk_cons ?_ ?_
  ·intro f w1 hb hd Q hK
   clear hd
   have hK:=Lib.hid hK
   go_wp2
   exact hK.out _ _ rfl (.refl _ _)
  refine stepsOk_cons ?_ ?_
  ·intro f w1 hb hd Q hK
   have d0:f 29=.pointer (some ⟨w.heap.size,1,none⟩):=hd.1 rfl
   clear hd
   simp only [d0] at hK
   have hK:=Lib.hid hK
   obtain ⟨_,c0,c1,c2,c3,c4⟩:=hA.below hb
   go_wp2
   exact hK.out _ _ rfl (.refl _ _)
  refine stepsOk_cons ?_ ?_
  ·intro f w1 hb hd Q hK
   clear hd
   have hK:=Lib.hid hK
   go_wp2
   exact hK.out _ _ rfl (.refl _ _)
  refine stepsOk_cons ?_ ?_
  ·intro f w1 hb hd Q hK
   have d0:f 31=.pointer (some ⟨w.heap.size+1+1+1,4,none⟩):=hd.1 rfl
   clear hd
   simp only [d0] at hK
   have hK:=Lib.hid hK
   obtain ⟨_,c0,c1,c2,c3,c4⟩:=hN.below hb
   go_wp2
   exact hK.out _ _ rfl (.refl _ _)
  refine stepsOk_cons ?_ ?_
  ·intro f w1 hb hd Q hK
   clear hd
   have hK:=Lib.hid hK
   go_wp2
   exact hK.out _ _ rfl (.refl _ _)
  refine stepsOk_cons ?_ ?_
  ·intro f w1 hb hd Q hK
   have d0:f 33=.pointer (some ⟨w.heap.size,2,none⟩):=hd.1 rfl
   clear hd
   simp only [d0] at hK
   have hK:=Lib.hid hK
   obtain ⟨_,c0,c1,c2,c3,c4⟩:=hA.below hb
   go_wp2
   exact hK.out _ _ rfl (.refl _ _)
  refine stepsOk_cons ?_ ?_
  ·intro f w1 hb hd Q hK
   clear hd
   have hK:=Lib.hid hK
   go_wp2
   exact hK.out _ _ rfl (.refl _ _)
  refine stepsOk_cons ?_ ?_
  ·intro f w1 hb hd Q hK
   have d0:f 35=.pointer (some ⟨w.heap.size+1+1+1,3,none⟩):=hd.1 rfl
   clear hd
   simp only [d0] at hK
   have hK:=Lib.hid hK
   obtain ⟨_,c0,c1,c2,c3,c4⟩:=hN.below hb
   go_wp2
   exact hK.out _ _ rfl (.refl _ _)
  refine stepsOk_cons ?_ ?_
  ·intro f w1 hb hd Q hK
   clear hd
   have hK:=Lib.hid hK
   go_wp2
   exact hK.out _ _ rfl (.refl _ _)
  refine stepsOk_cons ?_ ?_
  ·intro f w1 hb hd Q hK
   have d0:f 37=.pointer (some ⟨w.heap.size,3,none⟩):=hd.1 rfl
   clear hd
   simp only [d0] at hK
   have hK:=Lib.hid hK
   obtain ⟨_,c0,c1,c2,c3,c4⟩:=hA.below hb
   go_wp2
   exact hK.out _ _ rfl (.refl _ _)
  refine stepsOk_cons ?_ ?_
  ·intro f w1 hb hd Q hK
   clear hd
   have hK:=Lib.hid hK
   go_wp2
   exact hK.out _ _ rfl (.refl _ _)
  refine stepsOk_cons ?_ ?_
  ·intro f w1 hb hd Q hK
   have d0:f 39=.pointer (some ⟨w.heap.size+1+1+1,2,none⟩):=hd.1 rfl
   clear hd
   simp only [d0] at hK
   have hK:=Lib.hid hK
   obtain ⟨_,c0,c1,c2,c3,c4⟩:=hN.below hb
   go_wp2
   exact hK.out _ _ rfl (.refl _ _)
  refine stepsOk_cons ?_ ?_
  ·intro f w1 hb hd Q hK
   clear hd
   have hK:=Lib.hid hK
   go_wp2
   exact hK.out _ _ rfl (.refl _ _)
  refine stepsOk_cons ?_ ?_
  ·intro f w1 hb hd Q hK
   have d0:f 41=.pointer (some ⟨w.heap.size,4,none⟩):=hd.1 rfl
   clear hd
   simp only [d0] at hK
   have hK:=Lib.hid hK
   obtain ⟨_,c0,c1,c2,c3,c4⟩:=hA.below hb
   go_wp2
   exact hK.out _ _ rfl (.refl _ _)
  refine stepsOk_cons ?_ ?_
  ·intro f w1 hb hd Q hK
   clear hd
   have hK:=Lib.hid hK
   go_wp2
   exact hK.out _ _ rfl (.refl _ _)
  refine stepsOk_cons ?_ ?_
  ·intro f w1 hb hd Q hK
   have d0:f 43=.pointer (some ⟨w.heap.size+1+1+1,1,none⟩):=hd.1 rfl
   clear hd
   simp only [d0] at hK
   have hK:=Lib.hid hK
   obtain ⟨_,c0,c1,c2,c3,c4⟩:=hN.below hb
   go_wp2
   exact hK.out _ _ rfl (.refl _ _)
  refine stepsOk_cons ?_ ?_
  ·intro f w1 hb hd Q hK
   have d0:f 26=.int .u64 a0:=hd.1 rfl
   have d1:f 28=.int .u64 b0:=hd.2.1 rfl
   have d2:f 30=.int .u64 a1:=hd.2.2.1 rfl
   have d3:f 32=.int .u64 (IntKind.u64.wrap (19*b4)):=hd.2.2.2.1 rfl
   have d4:f 34=.int .u64 a2:=hd.2.2.2.2.1 rfl
   have d5:f 36=.int .u64 (IntKind.u64.wrap (19*b3)):=hd.2.2.2.2.2.1 rfl
   have d6:f 38=.int .u64 a3:=hd.2.2.2.2.2.2.1 rfl
   have d7:f 40=.int .u64 (IntKind.u64.wrap (19*b2)):=hd.2.2.2.2.2.2.2.1 rfl
   have d8:f 42=.int .u64 a4:=hd.2.2.2.2.2.2.2.2.1 rfl
   have d9:f 44=.int .u64 (IntKind.u64.wrap (19*b1)):=hd.2.2.2.2.2.2.2.2.2.1 rfl
   clear hd
   simp only [d0,d1,d2,d3,d4,d5,d6,d7,d8,d9] at hK
   have hK:=Lib.hid hK
   go_wp2
   exact hK.out _ _ ⟨_,rfl,by simp,heap_alloc_new _ _⟩ ((Below.refl _ _).alloc (Nat.le_refl _) _)
  refine stepsOk_cons ?_ ?_
  ·intro f w1 hb hd Q hK
   obtain ⟨g,d0,hg,hh⟩:Sl10 a0 b0 a1 (IntKind.u64.wrap (19*b4)) a2 (IntKind.u64.wrap (19*b3)) a3 (IntKind.u64.wrap (19*b2)) a4 (IntKind.u64.wrap (19*b1)) (f 45) w1:=hd.1 rfl
   clear hd
   simp only [d0] at hK
   have hK:=Lib.hid hK
   have hp:=Lib.hid (products_c g a0 b0 a1 (IntKind.u64.wrap (19*b4)) a2 (IntKind.u64.wrap (19*b3)) a3 (IntKind.u64.wrap (19*b2)) a4 (IntKind.u64.wrap (19*b1)) ua0 ub0 ua1 un4 ua2 un3 ua3 un2 ua4 un1 w1 hg (cell_of_row w1 g 0 _ _ _ hh) (cell_of_row w1 g 1 _ _ _ hh) (cell_of_row w1 g 2 _ _ _ hh) (cell_of_row w1 g 3 _ _ _ hh) (cell_of_row w1 g 4 _ _ _ hh) (cell_of_row w1 g 5 _ _ _ hh) (cell_of_row w1 g 6 _ _ _ hh) (cell_of_row w1 g 7 _ _ _ hh) (cell_of_row w1 g 8 _ _ _ hh) (cell_of_row w1 g 9 _ _ _ hh))
   clear hh hg
   go_wp2_with fail
   refine hp.out.mono ?_
   rintro e w2 ⟨hi,lo,rfl,⟨rfl,rfl⟩,hb2⟩
   go_wp2
   exact hK.out _ _ rfl hb2
  refine stepsOk_cons ?_ ?_
  ·intro f w1 hb hd Q hK
   clear hd
   have hK:=Lib.hid hK
   go_wp2
   exact hK.out _ _ rfl (.refl _ _)
  refine stepsOk_cons ?_ ?_
  ·intro f w1 hb hd Q hK
   have d0:f 47=.pointer (some ⟨w.heap.size,0,none⟩):=hd.1 rfl
   clear hd
   simp only [d0] at hK
   have hK:=Lib.hid hK
   obtain ⟨_,c0,c1,c2,c3,c4⟩:=hA.below hb
   go_wp2
   exact hK.out _ _ rfl (.refl _ _)
  refine stepsOk_cons ?_ ?_
  ·intro f w1 hb hd Q hK
   clear hd
   have hK:=Lib.hid hK
   go_wp2
   exact hK.out _ _ rfl (.refl _ _)
  refine stepsOk_cons ?_ ?_
  ·intro f w1 hb hd Q hK
   have d0:f 49=.pointer (some ⟨w.heap.size+1,1,none⟩):=hd.1 rfl
   clear hd
   simp only [d0] at hK
   have hK:=Lib.hid hK
   obtain ⟨_,c0,c1,c2,c3,c4⟩:=hB.below hb
   go_wp2
   exact hK.out _ _ rfl (.refl _ _)
  refine stepsOk_cons ?_ ?_
  ·intro f w1 hb hd Q hK
   clear hd
   have hK:=Lib.hid hK
   go_wp2
   exact hK.out _ _ rfl (.refl _ _)
  refine stepsOk_cons ?_ ?_
  ·intro f w1 hb hd Q hK
   have d0:f 51=.pointer (some ⟨w.heap.size,1,none⟩):=hd.1 rfl
   clear hd
   simp only [d0] at hK
   have hK:=Lib.hid hK
   obtain ⟨_,c0,c1,c2,c3,c4⟩:=hA.below hb
   go_wp2
   exact hK.out _ _ rfl (.refl _ _)
  refine stepsOk_cons ?_ ?_
  ·intro f w1 hb hd Q hK
   clear hd
   have hK:=Lib.hid hK
   go_wp2
   exact hK.out _ _ rfl (.refl _ _)
  refine stepsOk_cons ?_ ?_
  ·intro f w1 hb hd Q hK
   have d0:f 53=.pointer (some ⟨w.heap.size+1,0,none⟩):=hd.1 rfl
   clear hd
   simp only [d0] at hK
   have hK:=Lib.hid hK
   obtain ⟨_,c0,c1,c2,c3,c4⟩:=hB.below hb
   go_wp2
   exact hK.out _ _ rfl (.refl _ _)
  refine stepsOk_cons ?_ ?_
  ·intro f w1 hb hd Q hK
   clear hd
   have hK:=Lib.hid hK
   go_wp2
   exact hK.out _ _ rfl (.refl _ _)
  refine stepsOk_cons ?_ ?_
  ·intro f w1 hb hd Q hK
   have d0:f 55=.pointer (some ⟨w.heap.size,2,none⟩):=hd.1 rfl
   clear hd
   simp only [d0] at hK
   have hK:=Lib.hid hK
   obtain ⟨_,c0,c1,c2,c3,c4⟩:=hA.below hb
   go_wp2
   exact hK.out _ _ rfl (.refl _ _)
  refine stepsOk_cons ?_ ?_
  ·intro f w1 hb hd Q hK
   clear hd
   have hK:=Lib.hid hK
   go_wp2
   exact hK.out _ _ rfl (.refl _ _)
  refine stepsOk_cons ?_ ?_
  ·intro f w1 hb hd Q hK
   have d0:f 57=.pointer (some ⟨w.heap.size+1+1+1,4,none⟩):=hd.1 rfl
   clear hd
   simp only [d0] at hK
   have hK:=Lib.hid hK
   obtain ⟨_,c0,c1,c2,c3,c4⟩:=hN.below hb
   go_wp2
   exact hK.out _ _ rfl (.refl _ _)
  refine stepsOk_cons ?_ ?_
  ·intro f w1 hb hd Q hK
   clear hd
   have hK:=Lib.hid hK
   go_wp2
   exact hK.out _ _ rfl (.refl _ _)
  refine stepsOk_cons ?_ ?_
  ·intro f w1 hb hd Q hK
   have d0:f 59=.pointer (some ⟨w.heap.size,3,none⟩):=hd.1 rfl
   clear hd
   simp only [d0] at hK
   have hK:=Lib.hid hK
   obtain ⟨_,c0,c1,c2,c3,c4⟩:=hA.below hb
   go_wp2
   exact hK.out _ _ rfl (.refl _ _)
  refine stepsOk_cons ?_ ?_
  ·intro f w1 hb hd Q hK
   clear hd
   have hK:=Lib.hid hK
   go_wp2
   exact hK.out _ _ rfl (.refl _ _)
  refine stepsOk_cons ?_ ?_
  ·intro f w1 hb hd Q hK
   have d0:f 61=.pointer (some ⟨w.heap.size+1+1+1,3,none⟩):=hd.1 rfl
   clear hd
   simp only [d0] at hK
   have hK:=Lib.hid hK
   obtain ⟨_,c0,c1,c2,c3,c4⟩:=hN.below hb
   go_wp2
   exact hK.out _ _ rfl (.refl _ _)
  refine stepsOk_cons ?_ ?_
  ·intro f w1 hb hd Q hK
   clear hd
   have hK:=Lib.hid hK
   go_wp2
   exact hK.out _ _ rfl (.refl _ _)
  refine stepsOk_cons ?_ ?_
  ·intro f w1 hb hd Q hK
   have d0:f 63=.pointer (some ⟨w.heap.size,4,none⟩):=hd.1 rfl
   clear hd
   simp only [d0] at hK
   have hK:=Lib.hid hK
   obtain ⟨_,c0,c1,c2,c3,c4⟩:=hA.below hb
   go_wp2
   exact hK.out _ _ rfl (.refl _ _)
  refine stepsOk_cons ?_ ?_
  ·intro f w1 hb hd Q hK
   clear hd
   have hK:=Lib.hid hK
   go_wp2
   exact hK.out _ _ rfl (.refl _ _)
  refine stepsOk_cons ?_ ?_
  ·intro f w1 hb hd Q hK
   have d0:f 65=.pointer (some ⟨w.heap.size+1+1+1,2,none⟩):=hd.1 rfl
   clear hd
   simp only [d0] at hK
   have hK:=Lib.hid hK
   obtain ⟨_,c0,c1,c2,c3,c4⟩:=hN.below hb
   go_wp2
   exact hK.out _ _ rfl (.refl _ _)
  refine stepsOk_cons ?_ ?_
  ·intro f w1 hb hd Q hK
   have d0:f 48=.int .u64 a0:=hd.1 rfl
   have d1:f 50=.int .u64 b1:=hd.2.1 rfl
   have d2:f 52=.int .u64 a1:=hd.2.2.1 rfl
   have d3:f 54=.int .u64 b0:=hd.2.2.2.1 rfl
   have d4:f 56=.int .u64 a2:=hd.2.2.2.2.1 rfl
   have d5:f 58=.int .u64 (IntKind.u64.wrap (19*b4)):=hd.2.2.2.2.2.1 rfl
   have d6:f 60=.int .u64 a3:=hd.2.2.2.2.2.2.1 rfl
   have d7:f 62=.int .u64 (IntKind.u64.wrap (19*b3)):=hd.2.2.2.2.2.2.2.1 rfl
   have d8:f 64=.int .u64 a4:=hd.2.2.2.2.2.2.2.2.1 rfl
   have d9:f 66=.int .u64 (IntKind.u64.wrap (19*b2)):=hd.2.2.2.2.2.2.2.2.2.1 rfl
   clear hd
   simp only [d0,d1,d2,d3,d4,d5,d6,d7,d8,d9] at hK
   have hK:=Lib.hid hK
   go_wp2
   exact hK.out _ _ ⟨_,rfl,by simp,heap_alloc_new _ _⟩ ((Below.refl _ _).alloc (Nat.le_refl _) _)
  refine stepsOk_cons ?_ ?_
  ·intro f w1 hb hd Q hK
   obtain ⟨g,d0,hg,hh⟩:Sl10 a0 b1 a1 b0 a2 (IntKind.u64.wrap (19*b4)) a3 (IntKind.u64.wrap (19*b3)) a4 (IntKind.u64.wrap (19*b2)) (f 67) w1:=hd.1 rfl
   clear hd
   simp only [d0] at hK
   have hK:=Lib.hid hK
   have hp:=Lib.hid (products_c g a0 b1 a1 b0 a2 (IntKind.u64.wrap (19*b4)) a3 (IntKind.u64.wrap (19*b3)) a4 (IntKind.u64.wrap (19*b2)) ua0 ub1 ua1 ub0 ua2 un4 ua3 un3 ua4 un2 w1 hg (cell_of_row w1 g 0 _ _ _ hh) (cell_of_row w1 g 1 _ _ _ hh) (cell_of_row w1 g 2 _ _ _ hh) (cell_of_row w1 g 3 _ _ _ hh) (cell_of_row w1 g 4 _ _ _ hh) (cell_of_row w1 g 5 _ _ _ hh) (cell_of_row w1 g 6 _ _ _ hh) (cell_of_row w1 g 7 _ _ _ hh) (cell_of_row w1 g 8 _ _ _ hh) (cell_of_row w1 g 9 _ _ _ hh))
   clear hh hg
   go_wp2_with fail
   refine hp.out.mono ?_
   rintro e w2 ⟨hi,lo,rfl,⟨rfl,rfl⟩,hb2⟩
   go_wp2
   exact hK.out _ _ rfl hb2
  refine stepsOk_cons ?_ ?_
  ·intro f w1 hb hd Q hK
   clear hd
   have hK:=Lib.hid hK
   go_wp2
   exact hK.out _ _ rfl (.refl _ _)
  refine stepsOk_cons ?_ ?_
  ·intro f w1 hb hd Q hK
   have d0:f 69=.pointer (some ⟨w.heap.size,0,none⟩):=hd.1 rfl
   clear hd
   simp only [d0] at hK
   have hK:=Lib.hid hK
   obtain ⟨_,c0,c1,c2,c3,c4⟩:=hA.below hb
   go_wp2
   exact hK.out _ _ rfl (.refl _ _)
  refine stepsOk_cons ?_ ?_
  ·intro f w1 hb hd Q hK
   clear hd
   have hK:=Lib.hid hK
   go_wp2
   exact hK.out _ _ rfl (.refl _ _)
  refine stepsOk_cons ?_ ?_
  ·intro f w1 hb hd Q hK
   have d0:f 71=.pointer (some ⟨w.heap.size+1,2,none⟩):=hd.1 rfl
   clear hd
   simp only [d0] at hK
   have hK:=Lib.hid hK
   obtain ⟨_,c0,c1,c2,c3,c4⟩:=hB.below hb
   go_wp2
   exact hK.out _ _ rfl (.refl _ _)
  refine stepsOk_cons ?_ ?_
  ·intro f w1 hb hd Q hK
   clear hd
   have hK:=Lib.hid hK
   go_wp2
   exact hK.out _ _ rfl (.refl _ _)
  refine stepsOk_cons ?_ ?_
  ·intro f w1 hb hd Q hK
   have d0:f 73=.pointer (some ⟨w.heap.size,1,none⟩):=hd.1 rfl
   clear hd
   simp only [d0] at hK
   have hK:=Lib.hid hK
   obtain ⟨_,c0,c1,c2,c3,c4⟩:=hA.below hb
   go_wp2
   exact hK.out _ _ rfl (.refl _ _)
  refine stepsOk_cons ?_ ?_
  ·intro f w1 hb hd Q hK
   clear hd
   have hK:=Lib.hid hK
   go_wp2
   exact hK.out _ _ rfl (.refl _ _)
  refine stepsOk_cons ?_ ?_
  ·intro f w1 hb hd Q hK
   have d0:f 75=.pointer (some ⟨w.heap.size+1,1,none⟩):=hd.1 rfl
   clear hd
   simp only [d0] at hK
   have hK:=Lib.hid hK
   obtain ⟨_,c0,c1,c2,c3,c4⟩:=hB.below hb
   go_wp2
   exact hK.out _ _ rfl (.refl _ _)
  refine stepsOk_cons ?_ ?_
  ·intro f w1 hb hd Q hK
   clear hd
   have hK:=Lib.hid hK
   go_wp2
   exact hK.out _ _ rfl (.refl _ _)
  refine stepsOk_cons ?_ ?_
  ·intro f w1 hb hd Q hK
   have d0:f 77=.pointer (some ⟨w.heap.size,2,none⟩):=hd.1 rfl
   clear hd
   simp only [d0] at hK
   have hK:=Lib.hid hK
   obtain ⟨_,c0,c1,c2,c3,c4⟩:=hA.below hb
   go_wp2
   exact hK.out _ _ rfl (.refl _ _)
  refine stepsOk_cons ?_ ?_
  ·intro f w1 hb hd Q hK
   clear hd
   have hK:=Lib.hid hK
   go_wp2
   exact hK.out _ _ rfl (.refl _ _)
  refine stepsOk_cons ?_ ?_
  ·intro f w1 hb hd Q hK
   have d0:f 79=.pointer (some ⟨w.heap.size+1,0,none⟩):=hd.1 rfl
   clear hd
   simp only [d0] at hK
   have hK:=Lib.hid hK
   obtain ⟨_,c0,c1,c2,c3,c4⟩:=hB.below hb
   go_wp2
   exact hK.out _ _ rfl (.refl _ _)
  refine stepsOk_cons ?_ ?_
  ·intro f w1 hb hd Q hK
   clear hd
   have hK:=Lib.hid hK
   go_wp2
   exact hK.out _ _ rfl (.refl _ _)
  refine stepsOk_cons ?_ ?_
  ·intro f w1 hb hd Q hK
   have d0:f 81=.pointer (some ⟨w.heap.size,3,none⟩):=hd.1 rfl
   clear hd
   simp only [d0] at hK
   have hK:=Lib.hid hK
   obtain ⟨_,c0,c1,c2,c3,c4⟩:=hA.below hb
   go_wp2
   exact hK.out _ _ rfl (.refl _ _)
  refine stepsOk_cons ?_ ?_
  ·intro f w1 hb hd Q hK
   clear hd
   have hK:=Lib.hid hK
   go_wp2
   exact hK.out _ _ rfl (.refl _ _)
  refine stepsOk_cons ?_ ?_
  ·intro f w1 hb hd Q hK
   have d0:f 83=.pointer (some ⟨w.heap.size+1+1+1,4,none⟩):=hd.1 rfl
   clear hd
   simp only [d0] at hK
   have hK:=Lib.hid hK
   obtain ⟨_,c0,c1,c2,c3,c4⟩:=hN.below hb
   go_wp2
   exact hK.out _ _ rfl (.refl _ _)
  refine stepsOk_cons ?_ ?_
  ·intro f w1 hb hd Q hK
   clear hd
   have hK:=Lib.hid hK
   go_wp2
   exact hK.out _ _ rfl (.refl _ _)
  refine stepsOk_cons ?_ ?_
  ·intro f w1 hb hd Q hK
   have d0:f 85=.pointer (some ⟨w.heap.size,4,none⟩):=hd.1 rfl
   clear hd
   simp only [d0] at hK
   have hK:=Lib.hid hK
   obtain ⟨_,c0,c1,c2,c3,c4⟩:=hA.below hb
   go_wp2
   exact hK.out _ _ rfl (.refl _ _)
  refine stepsOk_cons ?_ ?_
  ·intro f w1 hb hd Q hK
   clear hd
   have hK:=Lib.hid hK
   go_wp2
   exact hK.out _ _ rfl (.refl _ _)
  refine stepsOk_cons ?_ ?_
  ·intro f w1 hb hd Q hK
   have d0:f 87=.pointer (some ⟨w.heap.size+1+1+1,3,none⟩):=hd.1 rfl
   clear hd
   simp only [d0] at hK
   have hK:=Lib.hid hK
   obtain ⟨_,c0,c1,c2,c3,c4⟩:=hN.below hb
   go_wp2
   exact hK.out _ _ rfl (.refl _ _)
  refine stepsOk_cons ?_ ?_
  ·intro f w1 hb hd Q hK
   have d0:f 70=.int .u64 a0:=hd.1 rfl
   have d1:f 72=.int .u64 b2:=hd.2.1 rfl
   have d2:f 74=.int .u64 a1:=hd.2.2.1 rfl
   have d3:f 76=.int .u64 b1:=hd.2.2.2.1 rfl
   have d4:f 78=.int .u64 a2:=hd.2.2.2.2.1 rfl
   have d5:f 80=.int .u64 b0:=hd.2.2.2.2.2.1 rfl
   have d6:f 82=.int .u64 a3:=hd.2.2.2.2.2.2.1 rfl
   have d7:f 84=.int .u64 (IntKind.u64.wrap (19*b4)):=hd.2.2.2.2.2.2.2.1 rfl
   have d8:f 86=.int .u64 a4:=hd.2.2.2.2.2.2.2.2.1 rfl
   have d9:f 88=.int .u64 (IntKind.u64.wrap (19*b3)):=hd.2.2.2.2.2.2.2.2.2.1 rfl
   clear hd
   simp only [d0,d1,d2,d3,d4,d5,d6,d7,d8,d9] at hK
   have hK:=Lib.hid hK
   go_wp2
   exact hK.out _ _ ⟨_,rfl,by simp,heap_alloc_new _ _⟩ ((Below.refl _ _).alloc (Nat.le_refl _) _)
  refine stepsOk_cons ?_ ?_
  ·intro f w1 hb hd Q hK
   obtain ⟨g,d0,hg,hh⟩:Sl10 a0 b2 a1 b1 a2 b0 a3 (IntKind.u64.wrap (19*b4)) a4 (IntKind.u64.wrap (19*b3)) (f 89) w1:=hd.1 rfl
   clear hd
   simp only [d0] at hK
   have hK:=Lib.hid hK
   have hp:=Lib.hid (products_c g a0 b2 a1 b1 a2 b0 a3 (IntKind.u64.wrap (19*b4)) a4 (IntKind.u64.wrap (19*b3)) ua0 ub2 ua1 ub1 ua2 ub0 ua3 un4 ua4 un3 w1 hg (cell_of_row w1 g 0 _ _ _ hh) (cell_of_row w1 g 1 _ _ _ hh) (cell_of_row w1 g 2 _ _ _ hh) (cell_of_row w1 g 3 _ _ _ hh) (cell_of_row w1 g 4 _ _ _ hh) (cell_of_row w1 g 5 _ _ _ hh) (cell_of_row w1 g 6 _ _ _ hh) (cell_of_row w1 g 7 _ _ _ hh) (cell_of_row w1 g 8 _ _ _ hh) (cell_of_row w1 g 9 _ _ _ hh))
   clear hh hg
   go_wp2_with fail
   refine hp.out.mono ?_
   rintro e w2 ⟨hi,lo,rfl,⟨rfl,rfl⟩,hb2⟩
   go_wp2
   exact hK.out _ _ rfl hb2
  refine stepsOk_cons ?_ ?_
  ·intro f w1 hb hd Q hK
   clear hd
   have hK:=Lib.hid hK
   go_wp2
   exact hK.out _ _ rfl (.refl _ _)
  refine stepsOk_cons ?_ ?_
  ·intro f w1 hb hd Q hK
   have d0:f 91=.pointer (some ⟨w.heap.size,0,none⟩):=hd.1 rfl
   clear hd
   simp only [d0] at hK
   have hK:=Lib.hid hK
   obtain ⟨_,c0,c1,c2,c3,c4⟩:=hA.below hb
   go_wp2
   exact hK.out _ _ rfl (.refl _ _)
  refine stepsOk_cons ?_ ?_
  ·intro f w1 hb hd Q hK
   clear hd
   have hK:=Lib.hid hK
   go_wp2
   exact hK.out _ _ rfl (.refl _ _)
  refine stepsOk_cons ?_ ?_
  ·intro f w1 hb hd Q hK
   have d0:f 93=.pointer (some ⟨w.heap.size+1,3,none⟩):=hd.1 rfl
   clear hd
   simp only [d0] at hK
   have hK:=Lib.hid hK
   obtain ⟨_,c0,c1,c2,c3,c4⟩:=hB.below hb
   go_wp2
   exact hK.out _ _ rfl (.refl _ _)
  refine stepsOk_cons ?_ ?_
  ·intro f w1 hb hd Q hK
   clear hd
   have hK:=Lib.hid hK
   go_wp2
   exact hK.out _ _ rfl (.refl _ _)
  refine stepsOk_cons ?_ ?_
  ·intro f w1 hb hd Q hK
   have d0:f 95=.pointer (some ⟨w.heap.size,1,none⟩):=hd.1 rfl
   clear hd
   simp only [d0] at hK
   have hK:=Lib.hid hK
   obtain ⟨_,c0,c1,c2,c3,c4⟩:=hA.below hb
   go_wp2
   exact hK.out _ _ rfl (.refl _ _)
  refine stepsOk_cons ?_ ?_
  ·intro f w1 hb hd Q hK
   clear hd
   have hK:=Lib.hid hK
   go_wp2
   exact hK.out _ _ rfl (.refl _ _)
  refine stepsOk_cons ?_ ?_
  ·intro f w1 hb hd Q hK
   have d0:f 97=.pointer (some ⟨w.heap.size+1,2,none⟩):=hd.1 rfl
   clear hd
   simp only [d0] at hK
   have hK:=Lib.hid hK
   obtain ⟨_,c0,c1,c2,c3,c4⟩:=hB.below hb
   go_wp2
   exact hK.out _ _ rfl (.refl _ _)
  refine stepsOk_cons ?_ ?_
  ·intro f w1 hb hd Q hK
   clear hd
   have hK:=Lib.hid hK
   go_wp2
   exact hK.out _ _ rfl (.refl _ _)
  refine stepsOk_cons ?_ ?_
  ·intro f w1 hb hd Q hK
   have d0:f 99=.pointer (some ⟨w.heap.size,2,none⟩):=hd.1 rfl
   clear hd
   simp only [d0] at hK
   have hK:=Lib.hid hK
   obtain ⟨_,c0,c1,c2,c3,c4⟩:=hA.below hb
   go_wp2
   exact hK.out _ _ rfl (.refl _ _)
  refine stepsOk_cons ?_ ?_
  ·intro f w1 hb hd Q hK
   clear hd
   have hK:=Lib.hid hK
   go_wp2
   exact hK.out _ _ rfl (.refl _ _)
  refine stepsOk_cons ?_ ?_
  ·intro f w1 hb hd Q hK
   have d0:f 101=.pointer (some ⟨w.heap.size+1,1,none⟩):=hd.1 rfl
   clear hd
   simp only [d0] at hK
   have hK:=Lib.hid hK
   obtain ⟨_,c0,c1,c2,c3,c4⟩:=hB.below hb
   go_wp2
   exact hK.out _ _ rfl (.refl _ _)
  refine stepsOk_cons ?_ ?_
  ·intro f w1 hb hd Q hK
   clear hd
   have hK:=Lib.hid hK
   go_wp2
   exact hK.out _ _ rfl (.refl _ _)
  refine stepsOk_cons ?_ ?_
  ·intro f w1 hb hd Q hK
   have d0:f 103=.pointer (some ⟨w.heap.size,3,none⟩):=hd.1 rfl
   clear hd
   simp only [d0] at hK
   have hK:=Lib.hid hK
   obtain ⟨_,c0,c1,c2,c3,c4⟩:=hA.below hb
   go_wp2
   exact hK.out _ _ rfl (.refl _ _)
  refine stepsOk_cons ?_ ?_
  ·intro f w1 hb hd Q hK
   clear hd
   have hK:=Lib.hid hK
   go_wp2
   exact hK.out _ _ rfl (.refl _ _)
  refine stepsOk_cons ?_ ?_
  ·intro f w1 hb hd Q hK
   have d0:f 105=.pointer (some ⟨w.heap.size+1,0,none⟩):=hd.1 rfl
   clear hd
   simp only [d0] at hK
   have hK:=Lib.hid hK
   obtain ⟨_,c0,c1,c2,c3,c4⟩:=hB.below hb
   go_wp2
   exact hK.out _ _ rfl (.refl _ _)
  refine stepsOk_cons ?_ ?_
  ·intro f w1 hb hd Q hK
   clear hd
   have hK:=Lib.hid hK
   go_wp2
   exact hK.out _ _ rfl (.refl _ _)
  refine stepsOk_cons ?_ ?_
  ·intro f w1 hb hd Q hK
   have d0:f 107=.pointer (some ⟨w.heap.size,4,none⟩):=hd.1 rfl
   clear hd
   simp only [d0] at hK
   have hK:=Lib.hid hK
   obtain ⟨_,c0,c1,c2,c3,c4⟩:=hA.below hb
   go_wp2
   exact hK.out _ _ rfl (.refl _ _)
  refine stepsOk_cons ?_ ?_
  ·intro f w1 hb hd Q hK
   clear hd
   have hK:=Lib.hid hK
   go_wp2
   exact hK.out _ _ rfl (.refl _ _)
  refine stepsOk_cons ?_ ?_
  ·intro f w1 hb hd Q hK
   have d0:f 109=.pointer (some ⟨w.heap.size+1+1+1,4,none⟩):=hd.1 rfl
   clear hd
   simp only [d0] at hK
   have hK:=Lib.hid hK
   obtain ⟨_,c0,c1,c2,c3,c4⟩:=hN.below hb
   go_wp2
   exact hK.out _ _ rfl (.refl _ _)
  refine stepsOk_cons ?_ ?_
  ·intro f w1 hb hd Q hK
   have d0:f 92=.int .u64 a0:=hd.1 rfl
   have d1:f 94=.int .u64 b3:=hd.2.1 rfl
   have d2:f 96=.int .u64 a1:=hd.2.2.1 rfl
   have d3:f 98=.int .u64 b2:=hd.2.2.2.1 rfl
   have d4:f 100=.int .u64 a2:=hd.2.2.2.2.1 rfl
   have d5:f 102=.int .u64 b1:=hd.2.2.2.2.2.1 rfl
   have d6:f 104=.int .u64 a3:=hd.2.2.2.2.2.2.1 rfl
   have d7:f 106=.int .u64 b0:=hd.2.2.2.2.2.2.2.1 rfl
   have d8:f 108=.int .u64 a4:=hd.2.2.2.2.2.2.2.2.1 rfl
   have d9:f 110=.int .u64 (IntKind.u64.wrap (19*b4)):=hd.2.2.2.2.2.2.2.2.2.1 rfl
   clear hd
   simp only [d0,d1,d2,d3,d4,d5,d6,d7,d8,d9] at hK
   have hK:=Lib.hid hK
   go_wp2
   exact hK.out _ _ ⟨_,rfl,by simp,heap_alloc_new _ _⟩ ((Below.refl _ _).alloc (Nat.le_refl _) _)
  refine stepsOk_cons ?_ ?_
  ·intro f w1 hb hd Q hK
   obtain ⟨g,d0,hg,hh⟩:Sl10 a0 b3 a1 b2 a2 b1 a3 b0 a4 (IntKind.u64.wrap (19*b4)) (f 111) w1:=hd.1 rfl
   clear hd
   simp only [d0] at hK
   have hK:=Lib.hid hK
   have hp:=Lib.hid (products_c g a0 b3 a1 b2 a2 b1 a3 b0 a4 (IntKind.u64.wrap (19*b4)) ua0 ub3 ua1 ub2 ua2 ub1 ua3 ub0 ua4 un4 w1 hg (cell_of_row w1 g 0 _ _ _ hh) (cell_of_row w1 g 1 _ _ _ hh) (cell_of_row w1 g 2 _ _ _ hh) (cell_of_row w1 g 3 _ _ _ hh) (cell_of_row w1 g 4 _ _ _ hh) (cell_of_row w1 g 5 _ _ _ hh) (cell_of_row w1 g 6 _ _ _ hh) (cell_of_row w1 g 7 _ _ _ hh) (cell_of_row w1 g 8 _ _ _ hh) (cell_of_row w1 g 9 _ _ _ hh))
   clear hh hg
   go_wp2_with fail
   refine hp.out.mono ?_
   rintro e w2 ⟨hi,lo,rfl,⟨rfl,rfl⟩,hb2⟩
   go_wp2
   exact hK.out _ _ rfl hb2
  refine stepsOk_cons ?_ ?_
  ·intro f w1 hb hd Q hK
   clear hd
   have hK:=Lib.hid hK
   go_wp2
   exact hK.out _ _ rfl (.refl _ _)
  refine stepsOk_cons ?_ ?_
  ·intro f w1 hb hd Q hK
   have d0:f 113=.pointer (some ⟨w.heap.size,0,none⟩):=hd.1 rfl
   clear hd
   simp only [d0] at hK
   have hK:=Lib.hid hK
   obtain ⟨_,c0,c1,c2,c3,c4⟩:=hA.below hb
   go_wp2
   exact hK.out _ _ rfl (.refl _ _)
  refine stepsOk_cons ?_ ?_
  ·intro f w1 hb hd Q hK
   clear hd
   have hK:=Lib.hid hK
   go_wp2
   exact hK.out _ _ rfl (.refl _ _)
  refine stepsOk_cons ?_ ?_
  ·intro f w1 hb hd Q hK
   have d0:f 115=.pointer (some ⟨w.heap.size+1,4,none⟩):=hd.1 rfl
   clear hd
   simp only [d0] at hK
   have hK:=Lib.hid hK
   obtain ⟨_,c0,c1,c2,c3,c4⟩:=hB.below hb
   go_wp2
   exact hK.out _ _ rfl (.refl _ _)
  refine stepsOk_cons ?_ ?_
  ·intro f w1 hb hd Q hK
   clear hd
   have hK:=Lib.hid hK
   go_wp2
   exact hK.out _ _ rfl (.refl _ _)
  refine stepsOk_cons ?_ ?_
  ·intro f w1 hb hd Q hK
   have d0:f 117=.pointer (some ⟨w.heap.size,1,none⟩):=hd.1 rfl
   clear hd
   simp only [d0] at hK
   have hK:=Lib.hid hK
   obtain ⟨_,c0,c1,c2,c3,c4⟩:=hA.below hb
   go_wp2
   exact hK.out _ _ rfl (.refl _ _)
  refine stepsOk_cons ?_ ?_
  ·intro f w1 hb hd Q hK
   clear hd
   have hK:=Lib.hid hK
   go_wp2
   exact hK.out _ _ rfl (.refl _ _)
  refine stepsOk_cons ?_ ?_
  ·intro f w1 hb hd Q hK
   have d0:f 119=.pointer (some ⟨w.heap.size+1,3,none⟩):=hd.1 rfl
   clear hd
   simp only [d0] at hK
   have hK:=Lib.hid hK
   obtain ⟨_,c0,c1,c2,c3,c4⟩:=hB.below hb
   go_wp2
   exact hK.out _ _ rfl (.refl _ _)
  refine stepsOk_cons ?_ ?_
  ·intro f w1 hb hd Q hK
   clear hd
   have hK:=Lib.hid hK
   go_wp2
   exact hK.out _ _ rfl (.refl _ _)
  refine stepsOk_cons ?_ ?_
  ·intro f w1 hb hd Q hK
   have d0:f 121=.pointer (some ⟨w.heap.size,2,none⟩):=hd.1 rfl
   clear hd
   simp only [d0] at hK
   have hK:=Lib.hid hK
   obtain ⟨_,c0,c1,c2,c3,c4⟩:=hA.below hb
   go_wp2
   exact hK.out _ _ rfl (.refl _ _)
  refine stepsOk_cons ?_ ?_
  ·intro f w1 hb hd Q hK
   clear hd
   have hK:=Lib.hid hK
   go_wp2
   exact hK.out _ _ rfl (.refl _ _)
  refine stepsOk_cons ?_ ?_
  ·intro f w1 hb hd Q hK
   have d0:f 123=.pointer (some ⟨w.heap.size+1,2,none⟩):=hd.1 rfl
   clear hd
   simp only [d0] at hK
   have hK:=Lib.hid hK
   obtain ⟨_,c0,c1,c2,c3,c4⟩:=hB.below hb
   go_wp2
   exact hK.out _ _ rfl (.refl _ _)
  refine stepsOk_cons ?_ ?_
  ·intro f w1 hb hd Q hK
   clear hd
   have hK:=Lib.hid hK
   go_wp2
   exact hK.out _ _ rfl (.refl _ _)
  refine stepsOk_cons ?_ ?_
  ·intro f w1 hb hd Q hK
   have d0:f 125=.pointer (some ⟨w.heap.size,3,none⟩):=hd.1 rfl
   clear hd
   simp only [d0] at hK
   have hK:=Lib.hid hK
   obtain ⟨_,c0,c1,c2,c3,c4⟩:=hA.below hb
   go_wp2
   exact hK.out _ _ rfl (.refl _ _)
  refine stepsOk_cons ?_ ?_
  ·intro f w1 hb hd Q hK
   clear hd
   have hK:=Lib.hid hK
   go_wp2
   exact hK.out _ _ rfl (.refl _ _)
  refine stepsOk_cons ?_ ?_
  ·intro f w1 hb hd Q hK
   have d0:f 127=.pointer (some ⟨w.heap.size+1,1,none⟩):=hd.1 rfl
   clear hd
   simp only [d0] at hK
   have hK:=Lib.hid hK
   obtain ⟨_,c0,c1,c2,c3,c4⟩:=hB.below hb
   go_wp2
   exact hK.out _ _ rfl (.refl _ _)
  refine stepsOk_cons ?_ ?_
  ·intro f w1 hb hd Q hK
   clear hd
   have hK:=Lib.hid hK
   go_wp2
   exact hK.out _ _ rfl (.refl _ _)
  refine stepsOk_cons ?_ ?_
  ·intro f w1 hb hd Q hK
   have d0:f 129=.pointer (some ⟨w.heap.size,4,none⟩):=hd.1 rfl
   clear hd
   simp only [d0] at hK
   have hK:=Lib.hid hK
   obtain ⟨_,c0,c1,c2,c3,c4⟩:=hA.below hb
   go_wp2
   exact hK.out _ _ rfl (.refl _ _)
  refine stepsOk_cons ?_ ?_
  ·intro f w1 hb hd Q hK
   clear hd
   have hK:=Lib.hid hK
   go_wp2
   exact hK.out _ _ rfl (.refl _ _)
  refine stepsOk_cons ?_ ?_
  ·intro f w1 hb hd Q hK
   have d0:f 131=.pointer (some ⟨w.heap.size+1,0,none⟩):=hd.1 rfl
   clear hd
   simp only [d0] at hK
   have hK:=Lib.hid hK
   obtain ⟨_,c0,c1,c2,c3,c4⟩:=hB.below hb
   go_wp2
   exact hK.out _ _ rfl (.refl _ _)
  refine stepsOk_cons ?_ ?_
  ·intro f w1 hb hd Q hK
   have d0:f 114=.int .u64 a0:=hd.1 rfl
   have d1:f 116=.int .u64 b4:=hd.2.1 rfl
   have d2:f 118=.int .u64 a1:=hd.2.2.1 rfl
   have d3:f 120=.int .u64 b3:=hd.2.2.2.1 rfl
   have d4:f 122=.int .u64 a2:=hd.2.2.2.2.1 rfl
   have d5:f 124=.int .u64 b2:=hd.2.2.2.2.2.1 rfl
   have d6:f 126=.int .u64 a3:=hd.2.2.2.2.2.2.1 rfl
   have d7:f 128=.int .u64 b1:=hd.2.2.2.2.2.2.2.1 rfl
   have d8:f 130=.int .u64 a4:=hd.2.2.2.2.2.2.2.2.1 rfl
   have d9:f 132=.int .u64 b0:=hd.2.2.2.2.2.2.2.2.2.1 rfl
   clear hd
   simp only [d0,d1,d2,d3,d4,d5,d6,d7,d8,d9] at hK
   have hK:=Lib.hid hK
   go_wp2
   exact hK.out _ _ ⟨_,rfl,by simp,heap_alloc_new _ _⟩ ((Below.refl _ _).alloc (Nat.le_refl _) _)
  refine stepsOk_cons ?_ ?_
  ·intro f w1 hb hd Q hK
   obtain ⟨g,d0,hg,hh⟩:Sl10 a0 b4 a1 b3 a2 b2 a3 b1 a4 b0 (f 133) w1:=hd.1 rfl
   clear hd
   simp only [d0] at hK
   have hK:=Lib.hid hK
   have hp:=Lib.hid (products_c g a0 b4 a1 b3 a2 b2 a3 b1 a4 b0 ua0 ub4 ua1 ub3 ua2 ub2 ua3 ub1 ua4 ub0 w1 hg (cell_of_row w1 g 0 _ _ _ hh) (cell_of_row w1 g 1 _ _ _ hh) (cell_of_row w1 g 2 _ _ _ hh) (cell_of_row w1 g 3 _ _ _ hh) (cell_of_row w1 g 4 _ _ _ hh) (cell_of_row w1 g 5 _ _ _ hh) (cell_of_row w1 g 6 _ _ _ hh) (cell_of_row w1 g 7 _ _ _ hh) (cell_of_row w1 g 8 _ _ _ hh) (cell_of_row w1 g 9 _ _ _ hh))
   clear hh hg
   go_wp2_with fail
   refine hp.out.mono ?_
   rintro e w2 ⟨hi,lo,rfl,⟨rfl,rfl⟩,hb2⟩
   go_wp2
   exact hK.out _ _ rfl hb2
  refine stepsOk_cons ?_ ?_
  ·intro f w1 hb hd Q hK
   have d0:f 46=.agg #[.int .u64 (HiW (tot5 a0 b0 a1 (IntKind.u64.wrap (19*b4)) a2 (IntKind.u64.wrap (19*b3)) a3 (IntKind.u64.wrap (19*b2)) a4 (IntKind.u64.wrap (19*b1)))),.int .u64 (LoW (tot5 a0 b0 a1 (IntKind.u64.wrap (19*b4)) a2 (IntKind.u64.wrap (19*b3)) a3 (IntKind.u64.wrap (19*b2)) a4 (IntKind.u64.wrap (19*b1))))]:=hd.1 rfl
   have d1:f 68=.agg #[.int .u64 (HiW (tot5 a0 b1 a1 b0 a2 (IntKind.u64.wrap (19*b4)) a3 (IntKind.u64.wrap (19*b3)) a4 (IntKind.u64.wrap (19*b2)))),.int .u64 (LoW (tot5 a0 b1 a1 b0 a2 (IntKind.u64.wrap (19*b4)) a3 (IntKind.u64.wrap (19*b3)) a4 (IntKind.u64.wrap (19*b2))))]:=hd.2.1 rfl
   have d2:f 90=.agg #[.int .u64 (HiW (tot5 a0 b2 a1 b1 a2 b0 a3 (IntKind.u64.wrap (19*b4)) a4 (IntKind.u64.wrap (19*b3)))),.int .u64 (LoW (tot5 a0 b2 a1 b1 a2 b0 a3 (IntKind.u64.wrap (19*b4)) a4 (IntKind.u64.wrap (19*b3))))]:=hd.2.2.1 rfl
   have d3:f 112=.agg #[.int .u64 (HiW (tot5 a0 b3 a1 b2 a2 b1 a3 b0 a4 (IntKind.u64.wrap (19*b4)))),.int .u64 (LoW (tot5 a0 b3 a1 b2 a2 b1 a3 b0 a4 (IntKind.u64.wrap (19*b4))))]:=hd.2.2.2.1 rfl
   have d4:f 134=.agg #[.int .u64 (HiW (tot5 a0 b4 a1 b3 a2 b2 a3 b1 a4 b0)),.int .u64 (LoW (tot5 a0 b4 a1 b3 a2 b2 a3 b1 a4 b0))]:=hd.2.2.2.2.1 rfl
   clear hd
   simp only [d0,d1,d2,d3,d4] at hK
   have hK:=Lib.hid hK
   go_wp2
   exact hK.out _ _ rfl (.refl _ _)
  refine stepsOk_cons ?_ ?_
  ·intro f w1 hb hd Q hK
   clear hd
   have hK:=Lib.hid hK
   have hsz:=hb.size
   go_wp2
   exact hK.out _ _ ⟨_,rfl,hsz,heap_alloc_new _ _⟩ ((Below.refl _ _).alloc (Nat.le_refl _) _)
  trivial
 intro f w1 hb hf
 have d0:f 135=.agg #[.int .u64 (HiW (tot5 a0 b0 a1 (IntKind.u64.wrap (19*b4)) a2 (IntKind.u64.wrap (19*b3)) a3 (IntKind.u64.wrap (19*b2)) a4 (IntKind.u64.wrap (19*b1)))),.int .u64 (LoW (tot5 a0 b0 a1 (IntKind.u64.wrap (19*b4)) a2 (IntKind.u64.wrap (19*b3)) a3 (IntKind.u64.wrap (19*b2)) a4 (IntKind.u64.wrap (19*b1)))),.int .u64 (HiW (tot5 a0 b1 a1 b0 a2 (IntKind.u64.wrap (19*b4)) a3 (IntKind.u64.wrap (19*b3)) a4 (IntKind.u64.wrap (19*b2)))),.int .u64 (LoW (tot5 a0 b1 a1 b0 a2 (IntKind.u64.wrap (19*b4)) a3 (IntKind.u64.wrap (19*b3)) a4 (IntKind.u64.wrap (19*b2)))),.int .u64 (HiW (tot5 a0 b2 a1 b1 a2 b0 a3 (IntKind.u64.wrap (19*b4)) a4 (IntKind.u64.wrap (19*b3)))),.int .u64 (LoW (tot5 a0 b2 a1 b1 a2 b0 a3 (IntKind.u64.wrap (19*b4)) a4 (IntKind.u64.wrap (19*b3)))),.int .u64 (HiW (tot5 a0 b3 a1 b2 a2 b1 a3 b0 a4 (IntKind.u64.wrap (19*b4)))),.int .u64 (LoW (tot5 a0 b3 a1 b2 a2 b1 a3 b0 a4 (IntKind.u64.wrap (19*b4)))),.int .u64 (HiW (tot5 a0 b4 a1 b3 a2 b2 a3 b1 a4 b0)),.int .u64 (LoW (tot5 a0 b4 a1 b3 a2 b2 a3 b1 a4 b0))]:=hf 110 _ _ (by decide) rfl rfl
 obtain ⟨g,d1,hg,hh⟩:Own10 W0.heap.size (f 7) w1:=hf 111 _ _ (by decide) rfl rfl
 clear hf
 have hb0:Below w.heap.size w W0:=by rw [hW0.out];go_grown
 have hR:Blk W0 (w.heap.size+1+1) 202 #[.int .u64 0,.int .u64 0,.int .u64 0,.int .u64 0,.int .u64 0]:=by rw [hW0.out];exact blk_at (by simp) ((Blk.new _ _ _).alloc _)
 have hR1:=hR.below hb
 have hgR:w.heap.size+1+1≠g:=by have:=hR.lt;omega
 have hi61:(Tryz.prog.info? 395).map (·.size)=some 10:=by kernel_rfl
 refine wpList_store_blk rfl _ _ _ rfl g _ _ _ d1 d0 hh rfl hi61 (by simp [Value.oneCell']) ?_
 intro w2 hg2 hgr hsz2
 have hb2:Below w.heap.size w w2:=by
  refine Below.grown (w:=w1) ?_ hgr ?_ ?_
  ·exact (hb0.trans (hb.mono hb0.size))
  ·exact Nat.le_trans hb0.size hb.size
  intro k hk
  have hk':=Option.some.inj hk
  have:=hb0.size
  omega
 have hR2:=hR1.grown hgr (fun e=>hgR (Option.some.inj e))
 clear hR1 hgr hR hh hW0 hb hb0 hsz2
 obtain ⟨c0,c1,c2,c3,c4,c5,c6,c7,c8,c9⟩:=blk10 hg2
 obtain ⟨r0,r1,r2,r3,r4⟩:=blk5 hR2
 have fz:=fun j=>hR2.frozen j
 have hz2:=hR2.lt
 have hgl:=hg2.lt
 clear hg2 d0 hg hgR hi61
 generalize hT0:(tot5 a0 b0 a1 (IntKind.u64.wrap (19*b4)) a2 (IntKind.u64.wrap (19*b3)) a3 (IntKind.u64.wrap (19*b2)) a4 (IntKind.u64.wrap (19*b1)))=T0 at c0 c1
 generalize hT1:(tot5 a0 b1 a1 b0 a2 (IntKind.u64.wrap (19*b4)) a3 (IntKind.u64.wrap (19*b3)) a4 (IntKind.u64.wrap (19*b2)))=T1 at c2 c3
 generalize hT2:(tot5 a0 b2 a1 b1 a2 b0 a3 (IntKind.u64.wrap (19*b4)) a4 (IntKind.u64.wrap (19*b3)))=T2 at c4 c5
 generalize hT3:(tot5 a0 b3 a1 b2 a2 b1 a3 b0 a4 (IntKind.u64.wrap (19*b4)))=T3 at c6 c7
 generalize hT4:(tot5 a0 b4 a1 b3 a2 b2 a3 b1 a4 b0)=T4 at c8 c9
 have t0:T128 T0:=by rw [← hT0];exact tot5_t _ _ _ _ _ _ _ _ _ _
 have t1:T128 T1:=by rw [← hT1];exact tot5_t _ _ _ _ _ _ _ _ _ _
 have t2:T128 T2:=by rw [← hT2];exact tot5_t _ _ _ _ _ _ _ _ _ _
 have t3:T128 T3:=by rw [← hT3];exact tot5_t _ _ _ _ _ _ _ _ _ _
 have t4:T128 T4:=by rw [← hT4];exact tot5_t _ _ _ _ _ _ _ _ _ _
 have gT0:=Lib.hid hT0
 clear hT0
 have gT1:=Lib.hid hT1
 clear hT1
 have gT2:=Lib.hid hT2
 clear hT2
 have gT3:=Lib.hid hT3
 clear hT3
 have gT4:=Lib.hid hT4
 clear hT4
 have i0:∀ w:World,(Instr.index 395 (.agg #[.int .u64 (HiW T0),.int .u64 (LoW T0),.int .u64 (HiW T1),.int .u64 (LoW T1),.int .u64 (HiW T2),.int .u64 (LoW T2),.int .u64 (HiW T3),.int .u64 (LoW T3),.int .u64 (HiW T4),.int .u64 (LoW T4)]) (.int .i64 0)).run Tryz.prog w=.ok (.agg #[.int .u64 (HiW T0),.int .u64 (LoW T0)]) w:=fun _=>by kernel_rfl
 have i1:∀ w:World,(Instr.index 395 (.agg #[.int .u64 (HiW T0),.int .u64 (LoW T0),.int .u64 (HiW T1),.int .u64 (LoW T1),.int .u64 (HiW T2),.int .u64 (LoW T2),.int .u64 (HiW T3),.int .u64 (LoW T3),.int .u64 (HiW T4),.int .u64 (LoW T4)]) (.int .i64 1)).run Tryz.prog w=.ok (.agg #[.int .u64 (HiW T1),.int .u64 (LoW T1)]) w:=fun _=>by kernel_rfl
 have i2:∀ w:World,(Instr.index 395 (.agg #[.int .u64 (HiW T0),.int .u64 (LoW T0),.int .u64 (HiW T1),.int .u64 (LoW T1),.int .u64 (HiW T2),.int .u64 (LoW T2),.int .u64 (HiW T3),.int .u64 (LoW T3),.int .u64 (HiW T4),.int .u64 (LoW T4)]) (.int .i64 2)).run Tryz.prog w=.ok (.agg #[.int .u64 (HiW T2),.int .u64 (LoW T2)]) w:=fun _=>by kernel_rfl
 have i3:∀ w:World,(Instr.index 395 (.agg #[.int .u64 (HiW T0),.int .u64 (LoW T0),.int .u64 (HiW T1),.int .u64 (LoW T1),.int .u64 (HiW T2),.int .u64 (LoW T2),.int .u64 (HiW T3),.int .u64 (LoW T3),.int .u64 (HiW T4),.int .u64 (LoW T4)]) (.int .i64 3)).run Tryz.prog w=.ok (.agg #[.int .u64 (HiW T3),.int .u64 (LoW T3)]) w:=fun _=>by kernel_rfl
 have i4:∀ w:World,(Instr.index 395 (.agg #[.int .u64 (HiW T0),.int .u64 (LoW T0),.int .u64 (HiW T1),.int .u64 (LoW T1),.int .u64 (HiW T2),.int .u64 (LoW T2),.int .u64 (HiW T3),.int .u64 (LoW T3),.int .u64 (HiW T4),.int .u64 (LoW T4)]) (.int .i64 4)).run Tryz.prog w=.ok (.agg #[.int .u64 (HiW T4),.int .u64 (LoW T4)]) w:=fun _=>by kernel_rfl
 go_wp2_with fail
 refine wp_loop_rounds 6 ?_
 rw [rounds_succ]
 go_wp2_with fail
 refine (partsT_c T0 t0 _).mono ?_
 rintro e w3 ⟨rfl,rfl⟩
 go_wp2
 rw [rounds_succ]
 go_wp2_with fail
 refine (partsT_c T1 t1 _).mono ?_
 rintro e w3 ⟨rfl,rfl⟩
 go_wp2
 rw [rounds_succ]
 go_wp2_with fail
 refine (partsT_c T2 t2 _).mono ?_
 rintro e w3 ⟨rfl,rfl⟩
 go_wp2
 rw [rounds_succ]
 go_wp2_with fail
 refine (partsT_c T3 t3 _).mono ?_
 rintro e w3 ⟨rfl,rfl⟩
 go_wp2
 rw [rounds_succ]
 go_wp2_with fail
 refine (partsT_c T4 t4 _).mono ?_
 rintro e w3 ⟨rfl,rfl⟩
 go_wp2
 rw [rounds_succ]
 go_wp2
 refine wp_loop_rounds 6 ?_
 rw [rounds_succ]
 go_wp2
 go_region
 go_wp2
 rw [rounds_succ]
 go_wp2
 go_region
 go_wp2
 rw [rounds_succ]
 go_wp2
 go_region
 go_wp2
 rw [rounds_succ]
 go_wp2
 go_region
 go_wp2
 rw [rounds_succ]
 go_wp2_with fail
 refine (mul64_c _ _ (up_u T4) (by decide) _).mono ?_
 rintro e w3 ⟨rfl,rfl⟩
 go_wp2
 rw [rounds_succ]
 go_wp2_with fail
 obtain ⟨e1,e2⟩:=mul_last (Fe.up T4) (up_u T4)
 have e1:=Lib.hid e1
 have e2:=Lib.hid e2
 refine (carried_c _ _ _ _ _ (by simp only [wr_eq];exact Fe.wr_w _ _ _ _ _) _).mono ?_
 rintro e w4 ⟨x0,x1,x2,x3,x4,rfl,hx,hb4⟩
 have hb24:Below w2.heap.size w2 w4:=below_after (by go_grown) hb4
 have hx:=Lib.hid hx
 clear hb4 c0 c1 c2 c3 c4 c5 c6 c7 c8 c9 i0 i1 i2 i3 i4 r0 r1 r2 r3 r4 fz
 go_wp2_with fail
 refine (carried_c _ _ _ _ _ (by rw [hx.out];exact Fe.carr_w (by simp only [wr_eq];exact Fe.wr_w _ _ _ _ _)) _).mono ?_
 rintro e w5 ⟨y0,y1,y2,y3,y4,rfl,hy,hb5⟩
 have hb25:Below w2.heap.size w2 w5:=below_after hb24 hb5
 have hy:=Lib.hid hy
 have hR5:=hR2.below hb25
 obtain ⟨r0,r1,r2,r3,r4⟩:=blk5 hR5
 have fz:=fun j=>hR5.frozen j
 clear hb24 hb5
 go_wp2
 refine bodyPost_ret (v:=.agg #[.int .u64 y0,.int .u64 y1,.int .u64 y2,.int .u64 y3,.int .u64 y4]) (by simp [results,Tryz.results256,go_sem,r0,r1,r2,r3,r4]) rfl ?_
 refine Post5.mk' ?_ ?_
 ·rw [hy.out,hx.out,e1.out,e2.out,← gT0.out,← gT1.out,← gT2.out,← gT3.out,← gT4.out]
  simp only [wr_eq]
  rfl
 clear r0 r1 r2 r3 r4 fz
 go_grown
 exact hb2.trans (hb25.mono hb2.size)
end Go.Proofs.YtnopjabcdloepaaGreatDoor
