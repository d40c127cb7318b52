/- flat rows of nothing. -/
import Derived.Test.YtiimojhdpmkeoaaGreatKc
namespace Go.Proofs.YtiimojhdpmkeoaaGreat
open Go.RowKit
theorem wpList_make_0 {P : Program} (w : World) {ops : Array Oper} {rest : List Oper} {o : Oper} {a : Act} {Q : Exit → Act → World → Prop} (hg : o.guard = none) (l c : Operand) (t : TypeId) (hop : o.op = Op.makeSlice t l c) (e : TypeId) (h1 : P.underlying t = some (.slice e)) (h2 : (P.info? e).map (fun i => i.zero.isSome) = some true) (hl : a.eval l = .int .i64 0) (hc : a.eval c = .int .i64 0)
    (hK : ∀ w', w.grownBy w' none → wpList P ops Q rest (a.put o.dst (.slice (some ⟨w.heap.size, 0, none⟩) 0 0)) w') : wpList P ops Q (o :: rest) a w := by
  cases hi : P.info? e with
  | none => rw [hi] at h2; simp at h2
  | some i =>
    cases hz : i.zero with
    | none => rw [hi] at h2; simp [hz] at h2
    | some z =>
      exact wpList_make_own w hg l c t hop w.heap.size e i z i.size h1 hi hz rfl .i64 .i64 0 0 hl hc rfl (by simp) (by unfold maxLen; omega) (Nat.le_refl _) fun w' _ h => hK w' h
set_option maxRecDepth 20000 in
set_option maxHeartbeats 2000000 in
theorem flatLimbs_0 (w : World) : Calls Tryz.prog 47 #[.slice none 0 0] w fun e w' => e = .returned (.bool true) ∧ Below w.heap.size w w' := by
  go_enter Tryz.func47, Tryz.ntmps47
  go_wp2
  refine wp_loop_rounds 1 ?_
  rw [rounds_succ]
  go_wp2_with (refine wpList_make_0 _ rfl _ _ 50 rfl 111 (by kernel_rfl) (by kernel_rfl) rfl rfl ?_; intro w1 hgr1)
  iterate 4 (refine wp_loop_rounds 1 ?_; rw [rounds_succ]; go_wp2)
  go_returns
  exact ⟨rfl, (Below.refl _ _).grown hgr1 (Nat.le_refl _) (fun k hk => by cases hk)⟩
set_option maxRecDepth 20000 in
set_option maxHeartbeats 2000000 in
theorem flatWords_0 (w : World) : Calls Tryz.prog 48 #[.slice none 0 0] w fun e w' => e = .returned (.bool true) ∧ Below w.heap.size w w' := by
  go_enter Tryz.func48, Tryz.ntmps48
  go_wp2
  refine wp_loop_rounds 1 ?_
  rw [rounds_succ]
  go_wp2_with (refine wpList_make_0 _ rfl _ _ 51 rfl 113 (by kernel_rfl) (by kernel_rfl) rfl rfl ?_; intro w1 hgr1)
  iterate 4 (refine wp_loop_rounds 1 ?_; rw [rounds_succ]; go_wp2)
  go_returns
  exact ⟨rfl, (Below.refl _ _).grown hgr1 (Nat.le_refl _) (fun k hk => by cases hk)⟩
set_option maxRecDepth 20000 in
set_option maxHeartbeats 2000000 in
theorem flatInts_0 (w : World) : Calls Tryz.prog 49 #[.slice none 0 0] w fun e w' => e = .returned (.bool true) ∧ Below w.heap.size w w' := by
  go_enter Tryz.func49, Tryz.ntmps49
  go_wp2
  refine wp_loop_rounds 1 ?_
  rw [rounds_succ]
  go_wp2_with (refine wpList_make_0 _ rfl _ _ 52 rfl 114 (by kernel_rfl) (by kernel_rfl) rfl rfl ?_; intro w1 hgr1)
  iterate 4 (refine wp_loop_rounds 1 ?_; rw [rounds_succ]; go_wp2)
  go_returns
  exact ⟨rfl, (Below.refl _ _).grown hgr1 (Nat.le_refl _) (fun k hk => by cases hk)⟩
set_option maxRecDepth 20000 in
set_option maxHeartbeats 2000000 in
theorem flatLongs_0 (w : World) : Calls Tryz.prog 50 #[.slice none 0 0] w fun e w' => e = .returned (.bool true) ∧ Below w.heap.size w w' := by
  go_enter Tryz.func50, Tryz.ntmps50
  go_wp2
  refine wp_loop_rounds 1 ?_
  rw [rounds_succ]
  go_wp2_with (refine wpList_make_0 _ rfl _ _ 53 rfl 115 (by kernel_rfl) (by kernel_rfl) rfl rfl ?_; intro w1 hgr1)
  iterate 4 (refine wp_loop_rounds 1 ?_; rw [rounds_succ]; go_wp2)
  go_returns
  exact ⟨rfl, (Below.refl _ _).grown hgr1 (Nat.le_refl _) (fun k hk => by cases hk)⟩
set_option maxRecDepth 20000 in
set_option maxHeartbeats 2000000 in
theorem flatTexts_0 (w : World) : Calls Tryz.prog 51 #[.slice none 0 0] w fun e w' => e = .returned (.bool true) ∧ Below w.heap.size w w' := by
  go_enter Tryz.func51, Tryz.ntmps51
  go_wp2
  refine wp_loop_rounds 1 ?_
  rw [rounds_succ]
  go_wp2_with (refine wpList_make_0 _ rfl _ _ 54 rfl 116 (by kernel_rfl) (by kernel_rfl) rfl rfl ?_; intro w1 hgr1)
  iterate 4 (refine wp_loop_rounds 1 ?_; rw [rounds_succ]; go_wp2)
  go_returns
  exact ⟨rfl, (Below.refl _ _).grown hgr1 (Nat.le_refl _) (fun k hk => by cases hk)⟩
set_option maxRecDepth 20000 in
set_option maxHeartbeats 2000000 in
theorem flatBytes_0 (w : World) : Calls Tryz.prog 52 #[.slice none 0 0] w fun e w' => e = .returned (.bool true) ∧ Below w.heap.size w w' := by
  go_enter Tryz.func52, Tryz.ntmps52
  go_wp2
  refine wp_loop_rounds 1 ?_
  rw [rounds_succ]
  go_wp2_with (refine wpList_make_0 _ rfl _ _ 36 rfl 23 (by kernel_rfl) (by kernel_rfl) rfl rfl ?_; intro w1 hgr1)
  iterate 4 (refine wp_loop_rounds 1 ?_; rw [rounds_succ]; go_wp2)
  go_returns
  exact ⟨rfl, (Below.refl _ _).grown hgr1 (Nat.le_refl _) (fun k hk => by cases hk)⟩
set_option maxRecDepth 20000 in
set_option maxHeartbeats 2000000 in
theorem flatTruths_0 (w : World) : Calls Tryz.prog 53 #[.slice none 0 0] w fun e w' => e = .returned (.bool true) ∧ Below w.heap.size w w' := by
  go_enter Tryz.func53, Tryz.ntmps53
  go_wp2
  refine wp_loop_rounds 1 ?_
  rw [rounds_succ]
  go_wp2_with (refine wpList_make_0 _ rfl _ _ 55 rfl 118 (by kernel_rfl) (by kernel_rfl) rfl rfl ?_; intro w1 hgr1)
  iterate 4 (refine wp_loop_rounds 1 ?_; rw [rounds_succ]; go_wp2)
  go_returns
  exact ⟨rfl, (Below.refl _ _).grown hgr1 (Nat.le_refl _) (fun k hk => by cases hk)⟩
set_option maxRecDepth 20000 in
set_option maxHeartbeats 2000000 in
theorem flatRows_0 (w : World) : Calls Tryz.prog 54 #[.slice none 0 0] w fun e w' => e = .returned (.bool true) ∧ Below w.heap.size w w' := by
  go_enter Tryz.func54, Tryz.ntmps54
  go_wp2
  refine wp_loop_rounds 1 ?_
  rw [rounds_succ]
  go_wp2_with (refine wpList_make_0 _ rfl _ _ 56 rfl 36 (by kernel_rfl) (by kernel_rfl) rfl rfl ?_; intro w1 hgr1)
  iterate 4 (refine wp_loop_rounds 1 ?_; rw [rounds_succ]; go_wp2)
  go_returns
  exact ⟨rfl, (Below.refl _ _).grown hgr1 (Nat.le_refl _) (fun k hk => by cases hk)⟩
set_option maxRecDepth 20000 in
set_option maxHeartbeats 2000000 in
theorem flatDots_0 (w : World) : Calls Tryz.prog 55 #[.slice none 0 0] w fun e w' => e = .returned (.bool true) ∧ Below w.heap.size w w' := by
  go_enter Tryz.func55, Tryz.ntmps55
  go_wp2
  refine wp_loop_rounds 1 ?_
  rw [rounds_succ]
  go_wp2_with (refine wpList_make_0 _ rfl _ _ 57 rfl 22 (by kernel_rfl) (by kernel_rfl) rfl rfl ?_; intro w1 hgr1)
  iterate 4 (refine wp_loop_rounds 1 ?_; rw [rounds_succ]; go_wp2)
  go_returns
  exact ⟨rfl, (Below.refl _ _).grown hgr1 (Nat.le_refl _) (fun k hk => by cases hk)⟩
set_option maxRecDepth 20000 in
set_option maxHeartbeats 2000000 in
theorem flatRecords_0 (w : World) : Calls Tryz.prog 56 #[.slice none 0 0] w fun e w' => e = .returned (.bool true) ∧ Below w.heap.size w w' := by
  go_enter Tryz.func56, Tryz.ntmps56
  go_wp2
  refine wp_loop_rounds 1 ?_
  rw [rounds_succ]
  go_wp2_with (refine wpList_make_0 _ rfl _ _ 58 rfl 120 (by kernel_rfl) (by kernel_rfl) rfl rfl ?_; intro w1 hgr1)
  iterate 4 (refine wp_loop_rounds 1 ?_; rw [rounds_succ]; go_wp2)
  go_returns
  exact ⟨rfl, (Below.refl _ _).grown hgr1 (Nat.le_refl _) (fun k hk => by cases hk)⟩
set_option maxRecDepth 20000 in
set_option maxHeartbeats 2000000 in
theorem flatLeaves_0 (w : World) : Calls Tryz.prog 57 #[.slice none 0 0] w fun e w' => e = .returned (.bool true) ∧ Below w.heap.size w w' := by
  go_enter Tryz.func57, Tryz.ntmps57
  go_wp2
  refine wp_loop_rounds 1 ?_
  rw [rounds_succ]
  go_wp2_with (refine wpList_make_0 _ rfl _ _ 59 rfl 122 (by kernel_rfl) (by kernel_rfl) rfl rfl ?_; intro w1 hgr1)
  iterate 4 (refine wp_loop_rounds 1 ?_; rw [rounds_succ]; go_wp2)
  go_returns
  exact ⟨rfl, (Below.refl _ _).grown hgr1 (Nat.le_refl _) (fun k hk => by cases hk)⟩
set_option maxRecDepth 20000 in
set_option maxHeartbeats 2000000 in
theorem flatGrants_0 (w : World) : Calls Tryz.prog 58 #[.slice none 0 0] w fun e w' => e = .returned (.bool true) ∧ Below w.heap.size w w' := by
  go_enter Tryz.func58, Tryz.ntmps58
  go_wp2
  refine wp_loop_rounds 1 ?_
  rw [rounds_succ]
  go_wp2_with (refine wpList_make_0 _ rfl _ _ 60 rfl 127 (by kernel_rfl) (by kernel_rfl) rfl rfl ?_; intro w1 hgr1)
  iterate 4 (refine wp_loop_rounds 1 ?_; rw [rounds_succ]; go_wp2)
  go_returns
  exact ⟨rfl, (Below.refl _ _).grown hgr1 (Nat.le_refl _) (fun k hk => by cases hk)⟩
set_option maxRecDepth 20000 in
set_option maxHeartbeats 2000000 in
theorem flatNodes_0 (w : World) : Calls Tryz.prog 59 #[.slice none 0 0] w fun e w' => e = .returned (.bool true) ∧ Below w.heap.size w w' := by
  go_enter Tryz.func59, Tryz.ntmps59
  go_wp2
  refine wp_loop_rounds 1 ?_
  rw [rounds_succ]
  go_wp2_with (refine wpList_make_0 _ rfl _ _ 61 rfl 132 (by kernel_rfl) (by kernel_rfl) rfl rfl ?_; intro w1 hgr1)
  iterate 4 (refine wp_loop_rounds 1 ?_; rw [rounds_succ]; go_wp2)
  go_returns
  exact ⟨rfl, (Below.refl _ _).grown hgr1 (Nat.le_refl _) (fun k hk => by cases hk)⟩
set_option maxRecDepth 20000 in
set_option maxHeartbeats 2000000 in
theorem flatStubs_0 (w : World) : Calls Tryz.prog 60 #[.slice none 0 0] w fun e w' => e = .returned (.bool true) ∧ Below w.heap.size w w' := by
  go_enter Tryz.func60, Tryz.ntmps60
  go_wp2
  refine wp_loop_rounds 1 ?_
  rw [rounds_succ]
  go_wp2_with (refine wpList_make_0 _ rfl _ _ 62 rfl 138 (by kernel_rfl) (by kernel_rfl) rfl rfl ?_; intro w1 hgr1)
  iterate 4 (refine wp_loop_rounds 1 ?_; rw [rounds_succ]; go_wp2)
  go_returns
  exact ⟨rfl, (Below.refl _ _).grown hgr1 (Nat.le_refl _) (fun k hk => by cases hk)⟩
set_option maxRecDepth 20000 in
set_option maxHeartbeats 2000000 in
theorem flatProofs_0 (w : World) : Calls Tryz.prog 61 #[.slice none 0 0] w fun e w' => e = .returned (.bool true) ∧ Below w.heap.size w w' := by
  go_enter Tryz.func61, Tryz.ntmps61
  go_wp2
  refine wp_loop_rounds 1 ?_
  rw [rounds_succ]
  go_wp2_with (refine wpList_make_0 _ rfl _ _ 63 rfl 143 (by kernel_rfl) (by kernel_rfl) rfl rfl ?_; intro w1 hgr1)
  iterate 4 (refine wp_loop_rounds 1 ?_; rw [rounds_succ]; go_wp2)
  go_returns
  exact ⟨rfl, (Below.refl _ _).grown hgr1 (Nat.le_refl _) (fun k hk => by cases hk)⟩
set_option maxRecDepth 20000 in
set_option maxHeartbeats 2000000 in
theorem flatRoots_0 (w : World) : Calls Tryz.prog 62 #[.slice none 0 0] w fun e w' => e = .returned (.bool true) ∧ Below w.heap.size w w' := by
  go_enter Tryz.func62, Tryz.ntmps62
  go_wp2
  refine wp_loop_rounds 1 ?_
  rw [rounds_succ]
  go_wp2_with (refine wpList_make_0 _ rfl _ _ 64 rfl 148 (by kernel_rfl) (by kernel_rfl) rfl rfl ?_; intro w1 hgr1)
  iterate 4 (refine wp_loop_rounds 1 ?_; rw [rounds_succ]; go_wp2)
  go_returns
  exact ⟨rfl, (Below.refl _ _).grown hgr1 (Nat.le_refl _) (fun k hk => by cases hk)⟩
set_option maxRecDepth 20000 in
set_option maxHeartbeats 2000000 in
theorem flatEvidenceRow_0 (w : World) : Calls Tryz.prog 63 #[.slice none 0 0] w fun e w' => e = .returned (.bool true) ∧ Below w.heap.size w w' := by
  go_enter Tryz.func63, Tryz.ntmps63
  go_wp2
  refine wp_loop_rounds 1 ?_
  rw [rounds_succ]
  go_wp2_with (refine wpList_make_0 _ rfl _ _ 65 rfl 153 (by kernel_rfl) (by kernel_rfl) rfl rfl ?_; intro w1 hgr1)
  iterate 4 (refine wp_loop_rounds 1 ?_; rw [rounds_succ]; go_wp2)
  go_returns
  exact ⟨rfl, (Below.refl _ _).grown hgr1 (Nat.le_refl _) (fun k hk => by cases hk)⟩
set_option maxRecDepth 20000 in
set_option maxHeartbeats 2000000 in
theorem flatFrames_0 (w : World) : Calls Tryz.prog 64 #[.slice none 0 0] w fun e w' => e = .returned (.bool true) ∧ Below w.heap.size w w' := by
  go_enter Tryz.func64, Tryz.ntmps64
  go_wp2
  refine wp_loop_rounds 1 ?_
  rw [rounds_succ]
  go_wp2_with (refine wpList_make_0 _ rfl _ _ 66 rfl 158 (by kernel_rfl) (by kernel_rfl) rfl rfl ?_; intro w1 hgr1)
  iterate 4 (refine wp_loop_rounds 1 ?_; rw [rounds_succ]; go_wp2)
  go_returns
  exact ⟨rfl, (Below.refl _ _).grown hgr1 (Nat.le_refl _) (fun k hk => by cases hk)⟩
set_option maxRecDepth 20000 in
set_option maxHeartbeats 2000000 in
theorem flatPackets_0 (w : World) : Calls Tryz.prog 65 #[.slice none 0 0] w fun e w' => e = .returned (.bool true) ∧ Below w.heap.size w w' := by
  go_enter Tryz.func65, Tryz.ntmps65
  go_wp2
  refine wp_loop_rounds 1 ?_
  rw [rounds_succ]
  go_wp2_with (refine wpList_make_0 _ rfl _ _ 67 rfl 164 (by kernel_rfl) (by kernel_rfl) rfl rfl ?_; intro w1 hgr1)
  iterate 4 (refine wp_loop_rounds 1 ?_; rw [rounds_succ]; go_wp2)
  go_returns
  exact ⟨rfl, (Below.refl _ _).grown hgr1 (Nat.le_refl _) (fun k hk => by cases hk)⟩
set_option maxRecDepth 20000 in
set_option maxHeartbeats 2000000 in
theorem flatEntries_0 (w : World) : Calls Tryz.prog 66 #[.slice none 0 0] w fun e w' => e = .returned (.bool true) ∧ Below w.heap.size w w' := by
  go_enter Tryz.func66, Tryz.ntmps66
  go_wp2
  refine wp_loop_rounds 1 ?_
  rw [rounds_succ]
  go_wp2_with (refine wpList_make_0 _ rfl _ _ 68 rfl 169 (by kernel_rfl) (by kernel_rfl) rfl rfl ?_; intro w1 hgr1)
  iterate 4 (refine wp_loop_rounds 1 ?_; rw [rounds_succ]; go_wp2)
  go_returns
  exact ⟨rfl, (Below.refl _ _).grown hgr1 (Nat.le_refl _) (fun k hk => by cases hk)⟩
set_option maxRecDepth 20000 in
set_option maxHeartbeats 2000000 in
theorem flatHeldRow_0 (w : World) : Calls Tryz.prog 67 #[.slice none 0 0] w fun e w' => e = .returned (.bool true) ∧ Below w.heap.size w w' := by
  go_enter Tryz.func67, Tryz.ntmps67
  go_wp2
  refine wp_loop_rounds 1 ?_
  rw [rounds_succ]
  go_wp2_with (refine wpList_make_0 _ rfl _ _ 69 rfl 175 (by kernel_rfl) (by kernel_rfl) rfl rfl ?_; intro w1 hgr1)
  iterate 4 (refine wp_loop_rounds 1 ?_; rw [rounds_succ]; go_wp2)
  go_returns
  exact ⟨rfl, (Below.refl _ _).grown hgr1 (Nat.le_refl _) (fun k hk => by cases hk)⟩
set_option maxRecDepth 20000 in
set_option maxHeartbeats 2000000 in
theorem flatConfigs_0 (w : World) : Calls Tryz.prog 68 #[.slice none 0 0] w fun e w' => e = .returned (.bool true) ∧ Below w.heap.size w w' := by
  go_enter Tryz.func68, Tryz.ntmps68
  go_wp2
  refine wp_loop_rounds 1 ?_
  rw [rounds_succ]
  go_wp2_with (refine wpList_make_0 _ rfl _ _ 70 rfl 180 (by kernel_rfl) (by kernel_rfl) rfl rfl ?_; intro w1 hgr1)
  iterate 4 (refine wp_loop_rounds 1 ?_; rw [rounds_succ]; go_wp2)
  go_returns
  exact ⟨rfl, (Below.refl _ _).grown hgr1 (Nat.le_refl _) (fun k hk => by cases hk)⟩
set_option maxRecDepth 20000 in
set_option maxHeartbeats 2000000 in
theorem flatSteps_0 (w : World) : Calls Tryz.prog 69 #[.slice none 0 0] w fun e w' => e = .returned (.bool true) ∧ Below w.heap.size w w' := by
  go_enter Tryz.func69, Tryz.ntmps69
  go_wp2
  refine wp_loop_rounds 1 ?_
  rw [rounds_succ]
  go_wp2_with (refine wpList_make_0 _ rfl _ _ 71 rfl 185 (by kernel_rfl) (by kernel_rfl) rfl rfl ?_; intro w1 hgr1)
  iterate 4 (refine wp_loop_rounds 1 ?_; rw [rounds_succ]; go_wp2)
  go_returns
  exact ⟨rfl, (Below.refl _ _).grown hgr1 (Nat.le_refl _) (fun k hk => by cases hk)⟩
set_option maxRecDepth 20000 in
set_option maxHeartbeats 2000000 in
theorem flatTales_0 (w : World) : Calls Tryz.prog 70 #[.slice none 0 0] w fun e w' => e = .returned (.bool true) ∧ Below w.heap.size w w' := by
  go_enter Tryz.func70, Tryz.ntmps70
  go_wp2
  refine wp_loop_rounds 1 ?_
  rw [rounds_succ]
  go_wp2_with (refine wpList_make_0 _ rfl _ _ 72 rfl 191 (by kernel_rfl) (by kernel_rfl) rfl rfl ?_; intro w1 hgr1)
  iterate 4 (refine wp_loop_rounds 1 ?_; rw [rounds_succ]; go_wp2)
  go_returns
  exact ⟨rfl, (Below.refl _ _).grown hgr1 (Nat.le_refl _) (fun k hk => by cases hk)⟩
end Go.Proofs.YtiimojhdpmkeoaaGreat
