/- The walk of LentBytes: whatever bytes. -/
import Derived.Test.YtiimojhdpmkeoaaGreatLe
namespace Go.Proofs.YtiimojhdpmkeoaaGreat
open Go.RowKit
/-- the marks behind a row that is lent -/
def marksB : Nat → List Int
  | 0 => []
  | k + 1 => marksB k ++ [mb 1 k]
theorem marksB_len : ∀ k, (marksB k).length = k
  | 0 => rfl
  | k + 1 => by simp only [marksB, List.length_append, marksB_len k, List.length_cons, List.length_nil]
theorem marksB_at : ∀ (k i : Nat), i < k → (marksB k).getD i 0 = mb 1 i
  | 0, i, h => absurd h (by omega)
  | k + 1, i, h => by
    have hl := marksB_len k
    simp only [marksB, List.getD_eq_getElem?_getD]
    by_cases e : i = k
    · subst e
      rw [List.getElem?_append_right (by omega), hl, Nat.sub_self]
      rfl
    · have ih := marksB_at k i (by omega)
      simp only [List.getD_eq_getElem?_getD] at ih
      rw [List.getElem?_append_left (by omega)]
      exact ih
/-- bytes are lent: in new memory, marks behind them -/
def PostLentB (n : Nat) (ds : List Int) (w : World) (e : Ending) (w' : World) : Prop := ∃ g cap, e = .returned (.slice (some ⟨g, 0, none⟩) n cap) ∧ n + 12 ≤ cap ∧ w'.ownsRow w.heap.size 5 1 (.slice (some ⟨g, 0, none⟩) (n + 12) cap) (n + 12) (bL (ds ++ marksB 12)) ∧ Below w.heap.size w w'
set_option maxRecDepth 20000 in
set_option maxHeartbeats 2000000 in
theorem lentBytes_o (p : Option Addr) (n c : Nat) (ds : List Int) (hnl : n = ds.length) (hn : n ≤ 1000000) (w : World) (hD : BytesL w p ds) :
    Calls Tryz.prog 19 #[.slice p n c] w (PostLentB n ds w) := by
  obtain ⟨i0, hi, hz0, hz1, hz2⟩ := info_parts u8_info
  replace hz1 := Lib.hid hz1
  replace hz2 := Lib.hid hz2
  replace hz0 := Lib.hid hz0
  replace hi := Lib.hid hi
  have hn0 : (0 : Int) ≤ (n : Int) := by omega
  have hn1 : (n : Int) ≤ 1000000 := by omega
  have hD2 := fun w' hb => hD.below (w' := w') hb
  replace hD2 := Lib.hid hD2
  replace hnl := Lib.hid hnl
  clear hD
  go_enter Tryz.func19, Tryz.ntmps19
  go_wp2_with (first
    | (refine wpList_make_own _ rfl _ _ 23 rfl w.heap.size 5 i0 (.int .u8 0) 1 bs_under hi.out hz0.out hz1.out .i64 .i64 _ (n + 12) rfl rfl (by omega) (by rw [hz2.out]; omega) (by unfold maxLen; omega) (Nat.le_refl _) ?_; intro w1 hO1 hgr1; have hb1 : Below w.heap.size w w1 := (Below.refl _ _).grown hgr1 (Nat.le_refl _) (fun k hk => by cases hk); clear hgr1; replace hO1 := Lib.hid hO1)
    | (at_builtin; refine wpList_appB rfl rfl rfl (ys := []) hO1.out rfl hnl.out (hD2.out _ hb1) (by omega) hb1.size ?_; intro v2 w2 hO2 hgr2 hcase2; have hb2 : Below w.heap.size w w2 := hb1.grown hgr2 hb1.size (fun k hk => (hO1.out.lt k hk).1); clear hgr2 hcase2; rw [Nat.zero_add] at hO2; replace hO2 := Lib.hid hO2))
  go_loopw [3, 4] (fun v i wr => ∃ k : Nat, k ≤ 12 ∧ i = .int .i64 k ∧ wr.ownsRow w.heap.size 5 1 v (n + k) (bL (ds ++ marksB k)) ∧ Below w.heap.size w wr) (fun _ i _ => (12 - intOf i).toNat)
  case atStart => exact ⟨0, by decide, rfl, by simpa [marksB] using hO2.out, hb2⟩
  case round =>
    clear hO2 hb2 hO1 hb1
    obtain ⟨k, hk, hi', hO, hb⟩ := hrel
    subst hi'
    by_cases h12 : k = 12
    · subst h12
      rcases hO.2 with ⟨_, h⟩ | ⟨g, cap, cur, rfl, _, _, hcap, _⟩
      · omega
      · have hP : PostLentB n ds w (.returned (.slice (some ⟨g, 0, none⟩) n cap)) wr := ⟨g, cap, rfl, hcap, hO, hb⟩
        replace hP := Lib.hid hP
        have hnc : n ≤ cap := by omega
        have hnc1 : (n : Int) ≤ (cap : Int) := by omega
        clear hk hO hb hcap
        go_wp2
        go_returns
        exact hP.out
    · have hk0 : (0 : Int) ≤ (k : Int) := by omega
      have hk1 : (k : Int) < 12 := by omega
      have hnx : marksB (k + 1) = marksB k ++ [mb 1 k] := rfl
      have hmk : ∀ w, Calls Tryz.prog 36 #[.int .i64 1, .int .i64 k] w fun e w' => e = .returned (.int .u8 (mb 1 k)) ∧ w = w' := fun w => markByte_c 1 k (by omega) (by omega) w
      replace hnx := Lib.hid hnx
      replace hmk := Lib.hid hmk
      replace hO := Lib.hid hO
      have hk12 : k + 1 ≤ 12 := by omega
      clear hk h12
      generalize mb 1 (k : Int) = x at *
      go_wp2_with fail
      refine (hmk.out _).mono ?_
      rintro e w3 ⟨rfl, rfl⟩
      have hOa := hO.out.alloc (.cells #[.int .u8 x] 5)
      have hba : Below w.heap.size w (wr.alloc (.cells #[.int .u8 x] 5)) := hb.alloc hb.size _
      have hXa : BytesL (wr.alloc (.cells #[.int .u8 x] 5)) (some ⟨wr.heap.size, 0, none⟩) [x] := fun _ => ⟨_, 0, rfl, by simp, fun j hj => by
        have : j = 0 := by simpa using hj
        subst this
        exact (Blk.new wr 5 #[.int .u8 x]).cell 0⟩
      replace hOa := Lib.hid hOa
      replace hXa := Lib.hid hXa
      clear hO hb
      go_wp2_with (at_builtin; refine wpList_appB rfl rfl rfl hOa.out rfl rfl hXa.out (by simp; omega) hba.size ?_; intro v4 w4 hO4 hgr4 hcase4; have hb4 : Below w.heap.size w w4 := hba.grown hgr4 hba.size (fun k hk => (hOa.out.lt k hk).1); clear hgr4 hcase4 hOa hXa hba; rw [List.append_assoc, ← hnx.out] at hO4; replace hO4 := Lib.hid hO4)
      exact ⟨⟨k + 1, hk12, rfl, hO4.out, hb4⟩, by simp [intOf]; omega⟩
end Go.Proofs.YtiimojhdpmkeoaaGreat
