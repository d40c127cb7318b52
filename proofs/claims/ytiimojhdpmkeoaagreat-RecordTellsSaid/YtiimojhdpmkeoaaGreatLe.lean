/- The walks of the kit's mark, markDot, LentDots. -/
import Derived.Test.YtiimojhdpmkeoaaGreatDm
import Derived.Test.YtiimojhdpmkeoaaGreatKb
namespace Go.Proofs.YtiimojhdpmkeoaaGreat
open Go.RowKit
/-- the mark of a place -/
def mk (k i : Int) : Int := 1000003 * (k + 7) + i
set_option maxRecDepth 10000 in
theorem markDot_c (k i : Int) (hk : 0 ≤ k ∧ k ≤ 1000) (hi : 0 ≤ i ∧ i ≤ 1000000) (w : World) : Calls Tryz.prog 35 #[.int .i64 k, .int .i64 i] w fun e w' => e = .returned (.agg #[.int .i64 0, .int .i64 (mk k i)]) ∧ Below w.heap.size w w' := by
  have hm := mark_c k i hk hi
  obtain ⟨m, hme⟩ : ∃ m, m = mk k i := ⟨_, rfl⟩
  rw [← hme]
  unfold mk at hme
  rw [← hme] at hm
  clear hme
  replace hm := Lib.hid hm
  go_enter Tryz.func35, Tryz.ntmps35
  go_wp2_with fail
  refine (hm.out _).mono ?_
  rintro e w1 ⟨rfl, rfl⟩
  go_wp2
  go_returns
  exact ⟨rfl, by go_grown⟩
/-- the marks behind a row that is lent -/
def marksL : Nat → List Int
  | 0 => []
  | k + 1 => marksL k ++ [0, mk 1 k]
theorem marks_len : ∀ k, (marksL k).length = 2 * k
  | 0 => rfl
  | k + 1 => by simp only [marksL, List.length_append, marks_len k, List.length_cons, List.length_nil]; omega
theorem marks_at : ∀ (k i : Nat), i < k → (marksL k).getD (i * 2) 0 = 0 ∧ (marksL k).getD (i * 2 + 1) 0 = mk 1 i
  | 0, i, h => absurd h (by omega)
  | k + 1, i, h => by
    have hl := marks_len k
    simp only [marksL, List.getD_eq_getElem?_getD]
    by_cases e : i = k
    · subst e
      rw [List.getElem?_append_right (by omega), List.getElem?_append_right (by omega), hl, show i * 2 - 2 * i = 0 by omega, show i * 2 + 1 - 2 * i = 1 by omega]
      exact ⟨rfl, rfl⟩
    · have ih := marks_at k i (by omega)
      simp only [List.getD_eq_getElem?_getD] at ih
      rw [List.getElem?_append_left (by omega), List.getElem?_append_left (by omega)]
      exact ih
/-- dots are lent: in new memory, marks behind them -/
def PostLentD (n : Nat) (ds : List Int) (w : World) (e : Ending) (w' : World) : Prop := ∃ g cap, e = .returned (.slice (some ⟨g, 0, none⟩) n cap) ∧ n + 12 ≤ cap ∧ w'.ownsRow w.heap.size 38 2 (.slice (some ⟨g, 0, none⟩) (n + 12) cap) (n + 12) (dotL (ds ++ marksL 12)) ∧ Below w.heap.size w w'
theorem d1_blk {w : World} {g : Nat} {t : TypeId} {x y : Int} (h : Blk w g t #[.int .i64 x, .int .i64 y]) : DotsL w (some ⟨g, 0, none⟩) 1 [x, y] := dots_blk 1 [x, y] h rfl
set_option maxRecDepth 20000 in
set_option maxHeartbeats 2000000 in
theorem lentDots_c (p : Option Addr) (n c : Nat) (ds : List Int) (hn : n ≤ 1000000) (w : World) (hD : DotsL w p n ds) :
    Calls Tryz.prog 18 #[.slice p n c] w (PostLentD n ds w) := by
  obtain ⟨i0, hi, hz0, hz1, hz2⟩ := info_parts dot_info
  replace hz1 := Lib.hid hz1
  replace hz2 := Lib.hid hz2
  replace hz0 := Lib.hid hz0
  replace hi := Lib.hid hi
  have hn0 : (0 : Int) ≤ (n : Int) := by omega
  have hn1 : (n : Int) ≤ 1000000 := by omega
  have hD2 := fun w' hb => hD.below (w' := w') hb
  replace hD2 := Lib.hid hD2
  clear hD
  go_enter Tryz.func18, Tryz.ntmps18
  go_wp2_with (first
    | (refine wpList_make_own _ rfl _ _ 22 rfl w.heap.size 38 i0 (.agg #[.int .i64 0, .int .i64 0]) 2 ds_under hi.out hz0.out hz1.out .i64 .i64 _ (n + 12) rfl rfl (by omega) (by rw [hz2.out]; omega) (by unfold maxLen; omega) (Nat.le_refl _) ?_; intro w1 hO1 hgr1; have hb1 : Below w.heap.size w w1 := (Below.refl _ _).grown hgr1 (Nat.le_refl _) (fun k hk => by cases hk); clear hgr1; replace hO1 := Lib.hid hO1)
    | (at_builtin; refine wpList_appD2 rfl rfl rfl (ys := []) hO1.out rfl (hD2.out _ hb1) (by omega) hb1.size ?_; intro v2 w2 hO2 hgr2 hcase2; have hb2 : Below w.heap.size w w2 := hb1.grown hgr2 hb1.size (fun k hk => (hO1.out.lt k hk).1); clear hgr2 hcase2; rw [Nat.zero_add] at hO2; replace hO2 := Lib.hid hO2))
  go_loopw [3, 4] (fun v i wr => ∃ k : Nat, k ≤ 12 ∧ i = .int .i64 k ∧ wr.ownsRow w.heap.size 38 2 v (n + k) (dotL (ds ++ marksL k)) ∧ Below w.heap.size w wr) (fun _ i _ => (12 - intOf i).toNat)
  case atStart => exact ⟨0, by decide, rfl, by simpa [marksL] using hO2.out, hb2⟩
  case round =>
    clear hO2 hb2 hO1 hb1
    rename_i v i
    obtain ⟨k, hk, hi', hO, hb⟩ := hrel
    subst hi'
    by_cases h12 : k = 12
    · subst h12
      rcases hO.2 with ⟨_, h⟩ | ⟨g, cap, cur, rfl, _, _, hcap, _⟩
      · omega
      · have hP : PostLentD n ds w (.returned (.slice (some ⟨g, 0, none⟩) n cap)) wr := ⟨g, cap, rfl, hcap, hO, hb⟩
        replace hP := Lib.hid hP
        have hnc : n ≤ cap := by omega
        have hnc1 : (n : Int) ≤ (cap : Int) := by omega
        clear hk hO hb hcap
        go_wp2
        go_returns
        exact hP.out
    · have hk0 : (0 : Int) ≤ (k : Int) := by omega
      have hk1 : (k : Int) < 12 := by omega
      have hnx : marksL (k + 1) = marksL k ++ [0, mk 1 k] := rfl
      have hmk := markDot_c 1 k (by omega) (by omega)
      replace hnx := Lib.hid hnx
      replace hmk := Lib.hid hmk
      replace hO := Lib.hid hO
      have hk12 : k + 1 ≤ 12 := by omega
      clear hk h12
      generalize mk 1 k = x at *
      go_wp2_with fail
      refine (hmk.out _).mono ?_
      rintro e w3 ⟨rfl, hb3⟩
      have hOa := (below_kept hO.out hb3).alloc (.cells #[.int .i64 0, .int .i64 x] 38)
      have hba : Below w.heap.size w (w3.alloc (.cells #[.int .i64 0, .int .i64 x] 38)) := (hb.trans (hb3.mono hb.size)).alloc (Nat.le_trans hb.size hb3.size) _
      have hXa : DotsL (w3.alloc (.cells #[.int .i64 0, .int .i64 x] 38)) (some ⟨w3.heap.size, 0, none⟩) 1 [0, x] := d1_blk (Blk.new w3 _ _)
      replace hOa := Lib.hid hOa
      replace hXa := Lib.hid hXa
      clear hO hb hb3
      go_wp2_with (at_builtin; refine wpList_appD2 rfl rfl rfl hOa.out rfl hXa.out (by omega) hba.size ?_; intro v4 w4 hO4 hgr4 hcase4; have hb4 : Below w.heap.size w w4 := hba.grown hgr4 hba.size (fun k hk => (hOa.out.lt k hk).1); clear hgr4 hcase4 hOa hXa hba; rw [List.append_assoc, ← hnx.out, Nat.add_assoc] at hO4; replace hO4 := Lib.hid hO4)
      exact ⟨⟨k + 1, hk12, rfl, hO4.out, hb4⟩, by simp [intOf]; omega⟩
end Go.Proofs.YtiimojhdpmkeoaaGreat
