/- The walk of edwards.Mul for bytes of another length than 32: it is Zero. -/
import Derived.Test.YtigcobcpfmnhoaaDoorZb
namespace Go.Proofs.YtigcobcpfmnhoaaDoor
open Go.RowKit Go.Shelf
attribute [local go_sem] Oper.semAt_some
theorem back1_none (F : Fence) (n : Nat) (hf : F.fn 72) (hro : F.round = none) (_ : 1 ≤ n) (l Bs : Nat) (J Jx : List (Nat × Bool) → World → Prop)
    (W : World) (hBs : W.cell? ⟨Bs, 0, none⟩ = some (.slice none 0 0)) (h0 : J [] W) :
    CallsIn F n Tryd.prog 72 #[.func (.yield l) #[] #[], .pointer (some ⟨Bs, 0, none⟩)] W fun e W' => (∃ v, e = .returned v) ∧
      ((∃ ys, ys = ([] : List (Nat × Bool)) ∧ J ys W') ∨ (∃ pre, True ∧ Jx pre W')) := by
  refine callsIn_of_wp Tryd.func72 rfl hf ?_ hro
  simp only [Tryd.ntmps72, List.size_toArray, List.length_cons, List.length_nil, Nat.reduceAdd, Nat.reduceSub, Array.replicate_succ, Array.replicate_zero, List.push_toArray, List.append_toArray, List.nil_append, List.cons_append]
  gi_wp2
  gi_loopw [3] (fun i wr => i = .int .i64 (-1) ∧ wr = W) (fun _ _ => 0)
  case atStart => exact ⟨rfl, rfl⟩
  case round =>
    obtain ⟨rfl, rfl⟩ := hrel
    gi_wp2
    go_end0
    exact ⟨⟨_, rfl⟩, .inl ⟨_, rfl, h0⟩⟩
theorem back_none (F : Fence) (n : Nat) (hf : F.fn 72) (hro : F.round = none) (hn : 1 ≤ n) (Bs : Nat) (w : World) (hB : Bs < w.heap.size)
    (hBs : w.cell? ⟨Bs, 0, none⟩ = some (.slice none 0 0)) :
    SeqStopsK F n Tryd.prog 72 #[.pointer (some ⟨Bs, 0, none⟩)] (fun x : Nat × Bool => #[.int .i64 (x.1 : Int), .bool x.2]) (KpB Bs Bs) (fun ys => ys = ([] : List (Nat × Bool))) (fun _ => True) 0 w := fun l J Jx W hW _ _ _ h0 =>
  back1_none F n hf hro hn l Bs J Jx W ((hW.cell (p := ⟨Bs, 0, none⟩) hB).trans hBs) h0
set_option maxRecDepth 100000 in
set_option maxHeartbeats 4000000 in
theorem pmul_x (p0 : Option Addr) (n0 c : Nat) (hn : n0 ≠ 32) {X Y Z T : Fe.E} {x y : Fin Fe.P} (w : World) (hp : PtE X Y Z T x y) (hCv : CvP w) :
    Calls Tryd.prog 14 #[.slice p0 n0 c, .agg (pcs X Y Z T)] w (PostQ 0 1 w) := by
  refine (callsIn_wide (n := 3)).1 ?_
  have hro : Fence.wide.round = none := rfl
  have h1 : 1 ≤ 3 := by decide
  have hbits := Lib.hid (fun w1 => sbits_x p0 n0 c hn w1)
  replace hp := Lib.hid hp
  replace hCv := Lib.hid hCv
  simp only [pcs]
  refine callsIn_of_wp_marks Tryd.func14 rfl trivial ?_ hro
  simp only [Tryd.ntmps14, List.size_toArray, List.length_cons, List.length_nil, Nat.reduceAdd, Nat.reduceSub, Array.replicate_succ, Array.replicate_zero, List.push_toArray, List.append_toArray, List.nil_append, List.cons_append]
  gi_wp2_with fail
  refine ⟨trivial, callsIn_at (fun W0 hW => ?_)⟩
  have kB : Blk W0 w.heap.size 30 (pcs X Y Z T) := by rw [hW]; exact (Blk.new _ _ _).alloc _
  have k0 : Blk W0 (w.heap.size + 1) 30 (pcs ⟨0, 0, 0, 0, 0⟩ ⟨0, 0, 0, 0, 0⟩ ⟨0, 0, 0, 0, 0⟩ ⟨0, 0, 0, 0, 0⟩) := by rw [hW]; exact blk_at (by simp) (Blk.new _ _ _)
  have hb0 : Below w.heap.size w W0 := by rw [hW]; go_grown
  clear hW
  obtain ⟨G0, hG0⟩ : ∃ G0, G0 = w.heap.size + 1 := ⟨_, rfl⟩
  rw [← hG0] at k0 ⊢
  obtain ⟨GB, hGB⟩ : ∃ GB, GB = w.heap.size := ⟨_, rfl⟩
  rw [← hGB] at kB ⊢
  have loB : w.heap.size ≤ GB := by omega
  have lo0 : w.heap.size ≤ G0 := by omega
  have nB0 : GB ≠ G0 := by omega
  clear hG0 hGB
  obtain ⟨V1, hV1⟩ : ∃ V : Value, V = .agg #[.int .u64 X.a0, .int .u64 X.a1, .int .u64 X.a2, .int .u64 X.a3, .int .u64 X.a4, .int .u64 Y.a0, .int .u64 Y.a1, .int .u64 Y.a2, .int .u64 Y.a3, .int .u64 Y.a4, .int .u64 Z.a0, .int .u64 Z.a1, .int .u64 Z.a2, .int .u64 Z.a3, .int .u64 Z.a4, .int .u64 T.a0, .int .u64 T.a1, .int .u64 T.a2, .int .u64 T.a3, .int .u64 T.a4] := ⟨_, rfl⟩
  rw [← hV1]
  clear hV1
  refine (callsIn_wide.2 (zero4_c _)).mono ?_
  rintro e w1 ⟨rfl, hb⟩
  have l0 := k0.lt
  replace kB := kB.below hb
  replace k0 := k0.below hb
  replace hb0 := hb0.trans (hb.mono hb0.size)
  clear hb l0
  have l0 := k0.lt
  have lB := kB.lt
  gi_wp2_with (first | (refine inSt (cells := pcs ⟨0, 0, 0, 0, 0⟩ ⟨1, 0, 0, 0, 0⟩ ⟨1, 0, 0, 0, 0⟩ ⟨0, 0, 0, 0, 0⟩) (fun _ => trivial) rfl 59 rfl rfl rfl (Blk.new _ _ _) rfl sm_size (pcs_one _ _ _ _) ?_; intro W1 kS1 hgr hsz; obtain ⟨V6, hV6⟩ : ∃ V : Value, V = .agg #[.int .u64 0, .int .u64 0, .int .u64 0, .int .u64 0, .int .u64 0, .int .u64 1, .int .u64 0, .int .u64 0, .int .u64 0, .int .u64 0, .int .u64 1, .int .u64 0, .int .u64 0, .int .u64 0, .int .u64 0, .int .u64 0, .int .u64 0, .int .u64 0, .int .u64 0, .int .u64 0] := ⟨_, rfl⟩; rw [← hV6]; clear hV6))
  refine ⟨trivial, ?_⟩
  have kS : SumQ W1 w1.heap.size (mulS x y []).1 (mulS x y []).2 := ⟨_, _, _, _, kS1, ptE_zero⟩
  have hb : Below w1.heap.size w1 W1 := ((Below.refl _ _).alloc (Nat.le_refl _) _).grown hgr (by rw [World.size_alloc]; omega) (fun k hk => by injection hk with hk; omega)
  clear hgr hsz kS1 l0 lB
  obtain ⟨GS, hGS⟩ : ∃ GS, GS = w1.heap.size := ⟨_, rfl⟩
  rw [← hGS] at kS ⊢
  have nBS : GB ≠ GS := by have := kB.lt; omega
  have n0S : G0 ≠ GS := by have := k0.lt; omega
  have loS : w.heap.size ≤ GS := by have := hb0.size; omega
  replace kB := kB.below hb
  replace k0 := k0.below hb
  replace hb0 := hb0.trans (hb.mono hb0.size)
  clear hb hGS
  refine (callsIn_wide.2 (hbits.out W1)).mono ?_
  rintro e w2 ⟨rfl, rfl⟩
  clear hbits
  gi_wp2_with fail
  refine ⟨trivial, (callsIn_wide.2 (back_c _ _ _ _)).mono ?_⟩
  rintro e w3 ⟨rfl, hW⟩
  have hb : Below W1.heap.size W1 w3 := by rw [hW]; exact (Below.refl _ _).alloc (Nat.le_refl _) _
  have hBs : w3.cell? ⟨W1.heap.size, 0, none⟩ = some (.slice none 0 0) := by rw [hW]; exact (Boxed.new W1 _ _).cell
  have hsz : w3.heap.size = W1.heap.size + 1 := by rw [hW, World.size_alloc]
  clear hW
  replace kB := kB.below hb
  replace k0 := k0.below hb
  have nSs : W1.heap.size ≠ GS := by have := kS.lt; omega
  replace kS := kS.below hb
  replace hb0 := hb0.trans (hb.mono hb0.size)
  clear hb
  obtain ⟨Bs, hBx⟩ : ∃ Bs, Bs = W1.heap.size := ⟨_, rfl⟩
  rw [← hBx] at hBs nSs ⊢
  have ltB : Bs < w3.heap.size := by omega
  clear hsz hBx
  have lts := kS.lt
  have hC3 := Lib.hid (hCv.out.below hb0 hCv.out.lt)
  gi_wp2
  refine wpIn_rangeFunc_ownG hro h1 (gf := 72) (lb := #[.pointer (some ⟨Bs, 0, none⟩)]) rfl trivial (enters_of Tryd.func72 (by kernel_rfl) rfl)
    (back_none Fence.wide (3 - 1) trivial hro (by decide) Bs w3 ltB hBs) KpB.trans (fun W l o o' hl h _ _ => KpB.putObj ltB ltB hl h) (Below.refl _ _) (fun _ => rfl)
    (fun pre W => SumQ W GS (mulS x y pre).1 (mulS x y pre).2 ∧ Blk W GB 30 (pcs X Y Z T) ∧ Blk W G0 30 (pcs ⟨0, 0, 0, 0, 0⟩ ⟨0, 0, 0, 0, 0⟩ ⟨0, 0, 0, 0, 0⟩ ⟨0, 0, 0, 0, 0⟩) ∧ Below w.heap.size w W ∧ w3.heap.size ≤ W.heap.size)
    (fun _ _ _ => False)
    (fun s A B row hs hg hr => ⟨hs.1.grown hg (fun e => by have := (hr _ e.symm).1; omega), hs.2.1.grown hg (fun e => by have := (hr _ e.symm).1; have := kB.lt; omega), hs.2.2.1.grown hg (fun e => by have := (hr _ e.symm).1; have := k0.lt; omega), hs.2.2.2.1.grown hg hs.2.2.2.1.size (fun k e => by have := (hr _ e).1; have := hb0.size; omega), Nat.le_trans hs.2.2.2.2 hg.size⟩)
    (fun _ _ _ _ _ hs _ _ => hs)
    ⟨kS, kB, k0, hb0, Nat.le_refl _⟩
    (fun x => { tmps := #[.slice p0 n0 c, V1, undef, .pointer (some ⟨GB, 0, none⟩), .pointer (some ⟨G0, 0, none⟩), .pointer (some ⟨GS, 0, none⟩), undef, .bool x.2, V6, V6, .slice p0 n0 c, .slice none 0 0, .func (.func 72) #[] #[.pointer (some ⟨Bs, 0, none⟩)], .int .i64 (x.1 : Int), .bool x.2, undef, undef, undef, undef, undef, undef], defers := [] }) ?assign ?body ?done ?stop
  case assign =>
    intro l x W K hK
    gi_wp2
    exact hK
  case body =>
    rintro l pre ⟨xi, xb⟩ W _ hlt
    exact absurd hlt (Nat.not_lt_zero _)
  case done =>
    rintro D ys W hD hys ⟨hS, hB, h0, hb, hs⟩ hK
    subst hys
    obtain ⟨X2, Y2, Z2, T2, kS2, hE⟩ := hS
    replace hE := Lib.hid hE
    gi_wp2_with (first | (refine inLdPt (fun _ => trivial) rfl rfl rfl kS2 ?_) | (refine inSt (fun _ => trivial) rfl 30 rfl rfl rfl h0 rfl pt_size (pcs_one _ _ _ _) ?_; intro W4 k4 hgr hsz))
    have ltD : D < W.heap.size := (Array.getElem?_eq_some_iff.1 hK).1
    have hK4 : W4.heap[D]? = some (.deferred (some [])) := (hgr.block D ltD (fun e => by injection e with e; have := k0.lt; omega)).trans hK
    have hb4 : Below w.heap.size w W4 := hb.grown hgr hb.size (fun k e => by injection e with e; omega)
    have ltD4 : D < W4.heap.size := (Array.getElem?_eq_some_iff.1 hK4).1
    refine ⟨by simp, .inl ⟨_, _, rfl, run_takeDeferred hK4, ?_⟩⟩
    obtain ⟨d, hd, hs2⟩ := pt_under
    have k5 : Blk (W4.putObj D (.deferred none)) G0 30 (pcs X2 Y2 Z2 T2) := k4.grown (grownBy_putObj' W4 D (.deferred none)) (fun e => by injection e with e; have := k0.lt; omega)
    refine ⟨.agg (pcs X2 Y2 Z2 T2), results_cell_row rfl _ _ G0 30 (pcs X2 Y2 Z2 T2) (0, 0) d rfl k5 hd (by revert hs2; cases d <;> exact fun h => h) pt_size, ?_⟩
    exact ⟨X2, Y2, Z2, T2, rfl, hE.out, hb4.grown (grownBy_putObj' W4 D (.deferred none)) hb4.size (fun k e => by injection e with e; have := hb0.size; omega)⟩
  case stop =>
    rintro D c pre W _ _ h _
    exact h.elim
end Go.Proofs.YtigcobcpfmnhoaaDoor
