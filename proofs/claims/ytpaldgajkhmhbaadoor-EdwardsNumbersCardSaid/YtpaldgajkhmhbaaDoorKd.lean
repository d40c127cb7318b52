/- The walks of LentBytes and KeptBytes. -/
import Derived.Test.YtpaldgajkhmhbaaDoorKc
import Derived.Deep.DeepFit
namespace Go.Proofs.YtpaldgajkhmhbaaDoor
open Go.RowKit
theorem rowB_of {w : World} {base g n c : Nat} {f : Nat → Int} (h : w.ownsRow base 5 1 (.slice (some ⟨g, 0, none⟩) n c) n (cB n f)) : RowB w g n c f := by
  obtain ⟨hl, h | ⟨g', cap, cur, h1, h2, h3, h4, h5, h6, h7⟩⟩ := h
  · exact absurd h.1 (by simp)
  injection h1 with h1 h1a h1b
  injection h1 with h1
  injection h1 with h1
  subst h1
  subst h1b
  exact ⟨cur, h3, h4, h5, by rw [h6, Nat.mul_one], by rw [Nat.mul_one] at h7; exact h7⟩
/-- what is lent: the bytes, and marks behind them -/
def lentF (n : Nat) (b : Nat → Int) (j : Nat) : Int := if j < n then b j else mb 1 ((j - n : Nat) : Int)
/-- bytes that are read: nil, or cells -/
def SrcB (w : World) (v : Value) (n : Nat) (b : Nat → Int) : Prop := (v = .slice none 0 0 ∧ n = 0) ∨ ∃ g o c, v = .slice (some ⟨g, o, none⟩) n c ∧ g < w.heap.size ∧ ∀ j, j < n → w.cell? ⟨g, o + j, none⟩ = some (.int .u8 (b j))
theorem SrcB.below {w w' : World} {v : Value} {n : Nat} {b : Nat → Int} (h : SrcB w v n b) (hb : Below w.heap.size w w') : SrcB w' v n b := by
  rcases h with h | ⟨g, o, c, h1, h2, h3⟩
  · exact .inl h
  exact .inr ⟨g, o, c, h1, Nat.lt_of_lt_of_le h2 hb.size, fun j hj => (hb.cell (p := ⟨g, o + j, none⟩) h2).trans (h3 j hj)⟩
def PostLent (n : Nat) (b : Nat → Int) (w : World) (e : Ending) (w' : World) : Prop := ∃ g, e = .returned (.slice (some ⟨g, 0, none⟩) n (n + 12)) ∧ w.heap.size ≤ g ∧ RowB w' g (n + 12) (n + 12) (lentF n b) ∧ Below w.heap.size w w'
theorem add_o (g o j : Nat) : (⟨g, o, none⟩ : Addr).add j = ⟨g, o + j, none⟩ := by unfold Addr.add; split <;> simp_all
set_option maxRecDepth 20000 in
set_option maxRecDepth 20000 in
set_option maxHeartbeats 2000000 in
theorem lentBytes_s (g o n c : Nat) (b : Nat → Int) (hn : n ≤ 1000000) (w : World) (hg : g < w.heap.size) (hc : ∀ j, j < n → w.cell? ⟨g, o + j, none⟩ = some (.int .u8 (b j))) :
    Calls Tryd.prog 12 #[.slice (some ⟨g, o, none⟩) n c] w (PostLent n b w) := by
  have hfin : ∀ w', RowB w' w.heap.size (n + 12) (n + 12) (lentF n b) → Below w.heap.size w w' → PostLent n b w (.returned (.slice (some ⟨w.heap.size, 0, none⟩) n (n + 12))) w' := fun w' h1 h2 => ⟨_, rfl, Nat.le_refl _, h1, h2⟩
  have hl : ∀ j, j < n → lentF n b j = b j := fun j hj => by unfold lentF; rw [if_pos hj]
  have hm : ∀ k : Nat, lentF n b (n + k) = mb 1 k := fun k => by unfold lentF; rw [if_neg (by omega), Nat.add_sub_cancel_left]
  generalize lentF n b = L at *
  obtain ⟨i0, hi, hz0, hz1, hz2⟩ := info_parts u8_infoK
  replace hfin := Lib.hid hfin
  replace hl := Lib.hid hl
  replace hm := Lib.hid hm
  replace hc := Lib.hid hc
  replace hz1 := Lib.hid hz1
  replace hz2 := Lib.hid hz2
  replace hz0 := Lib.hid hz0
  replace hi := Lib.hid hi
  have hn0 : (0 : Int) ≤ (n : Int) := by omega
  have hn1 : (n : Int) ≤ 1000000 := by omega
  go_enter Tryd.func12, Tryd.ntmps12
  go_wp2_with (first
    | (refine wpList_make_own _ rfl _ _ 22 rfl w.heap.size 5 i0 (.int .u8 0) 1 bs_underK hi.out hz0.out hz1.out .i64 .i64 _ (n + 12) rfl rfl (by omega) (by rw [hz2.out]; omega) (by unfold maxLen; omega) (Nat.le_refl _) ?_; intro w1 hO1 hgr1; have hR1 : RowB w1 w.heap.size 0 (n + 12) (fun _ => 0) := rowB_of hO1; have hc1 : ∀ j, j < n → w1.cell? ((⟨g, o, none⟩ : Addr).add j) = some (.int .u8 (L (0 + j))) := (fun j hj => by rw [add_o, Nat.zero_add, hl.out j hj, World.cell?_of_block (hgr1.block g hg (by simp))]; exact hc.out j hj); have hb1 : Below w.heap.size w w1 := (Below.refl _ _).grown hgr1 (Nat.le_refl _) (fun k hk => by cases hk); clear hgr1 hO1)
    | (refine wpList_app rfl rfl rfl hR1 rfl L (fun i hi => absurd hi (by omega)) hc1 (by omega) ?_; intro g2 c2 w2 hR2 hgr2 hcase2; have hg2 : g2 = w.heap.size ∧ c2 = n + 12 := (by rcases hcase2 with h | h; exact ⟨h.1, h.2.1⟩; omega); obtain ⟨hg2a, hg2b⟩ := hg2; subst hg2a hg2b; have hb2 : Below w.heap.size w w2 := hb1.grown hgr2 hb1.size (fun k hk => by injection hk; omega); rw [Nat.zero_add] at hR2 ⊢; clear hgr2 hcase2 hc1 hR1 hb1))
  go_loopw [3, 4] (fun v i wr => ∃ k : Nat, k ≤ 12 ∧ i = .int .i64 k ∧ v = .slice (some ⟨w.heap.size, 0, none⟩) (n + k) (n + 12) ∧ RowB wr w.heap.size (n + k) (n + 12) L ∧ Below w.heap.size w wr) (fun _ i _ => (12 - intOf i).toNat)
  case atStart => exact ⟨0, by decide, rfl, rfl, hR2, hb2⟩
  case round =>
    clear hR2 hb2
    obtain ⟨k, hk, hi', hv, hR, hb⟩ := hrel
    subst hi' hv
    by_cases h12 : k = 12
    · subst h12
      have hP := Lib.hid (hfin.out wr hR hb)
      clear hk hR hb
      go_wp2
      go_returns
      exact hP.out
    have hk0 : (0 : Int) ≤ (k : Int) := by omega
    have hk1 : (k : Int) < 12 := by omega
    have hmk := hm.out k
    clear hk h12
    go_wp2_with fail
    refine (markByte_c 1 k (by omega) (by omega) _).mono ?_
    rintro e w3 ⟨rfl, rfl⟩
    have hRa : RowB (wr.alloc (Obj.cells #[.int .u8 (mb 1 k)] 5)) w.heap.size (n + k) (n + 12) L := hR.below ((Below.refl _ _).alloc (Nat.le_refl _) _)
    have hba : Below w.heap.size w (wr.alloc (Obj.cells #[.int .u8 (mb 1 k)] 5)) := hb.alloc hb.size _
    have hca : ∀ j, j < 1 → (wr.alloc (Obj.cells #[.int .u8 (mb 1 k)] 5)).cell? ((⟨wr.heap.size, 0, none⟩ : Addr).add j) = some (.int .u8 (L (n + k + j))) := fun j hj => by
      obtain rfl : j = 0 := by omega
      rw [add_o, show n + k + 0 = n + k from rfl, hmk]
      exact (Blk.new wr _ _).cell 0
    replace hmk := Lib.hid hmk
    generalize mb 1 k = x at *
    clear hR hb
    go_wp2_with (refine wpList_app rfl rfl rfl hRa rfl L (fun i hi => rfl) hca (by omega) ?_; intro g2 c2 w4 hR4 hgr4 hcase4; have hg4 : g2 = w.heap.size ∧ c2 = n + 12 := (by rcases hcase4 with h | h; exact ⟨h.1, h.2.1⟩; omega); obtain ⟨hg4a, hg4b⟩ := hg4; subst hg4a hg4b; have hb4 : Below w.heap.size w w4 := hba.grown hgr4 hba.size (fun k hk => by injection hk; omega); clear hgr4 hcase4 hca hRa hba)
    exact ⟨⟨k + 1, by omega, rfl, by rw [Nat.add_assoc], hR4, hb4⟩, by simp [intOf]; omega⟩
set_option maxRecDepth 20000 in
set_option maxRecDepth 20000 in
set_option maxHeartbeats 2000000 in
theorem lentBytes_0 (n : Nat) (b : Nat → Int) (hn : n = 0) (w : World) :
    Calls Tryd.prog 12 #[.slice none 0 0] w (PostLent n b w) := by
  have hfin : ∀ w', RowB w' w.heap.size (n + 12) (n + 12) (lentF n b) → Below w.heap.size w w' → PostLent n b w (.returned (.slice (some ⟨w.heap.size, 0, none⟩) n (n + 12))) w' := fun w' h1 h2 => ⟨_, rfl, Nat.le_refl _, h1, h2⟩
  have hl : ∀ j, j < n → lentF n b j = b j := fun j hj => by unfold lentF; rw [if_pos hj]
  have hm : ∀ k : Nat, lentF n b (n + k) = mb 1 k := fun k => by unfold lentF; rw [if_neg (by omega), Nat.add_sub_cancel_left]
  generalize lentF n b = L at *
  subst hn
  obtain ⟨i0, hi, hz0, hz1, hz2⟩ := info_parts u8_infoK
  replace hfin := Lib.hid hfin
  replace hl := Lib.hid hl
  replace hm : ∀ k : Nat, L k = mb 1 k := fun k => by have := hm k; rwa [Nat.zero_add] at this
  replace hm := Lib.hid hm
  replace hz1 := Lib.hid hz1
  replace hz2 := Lib.hid hz2
  replace hz0 := Lib.hid hz0
  replace hi := Lib.hid hi
  go_enter Tryd.func12, Tryd.ntmps12
  go_wp2_with (first
    | (refine wpList_make_own _ rfl _ _ 22 rfl w.heap.size 5 i0 (.int .u8 0) 1 bs_underK hi.out hz0.out hz1.out .i64 .i64 _ 12 rfl rfl (by omega) (by rw [hz2.out]; omega) (by unfold maxLen; omega) (Nat.le_refl _) ?_; intro w1 hO1 hgr1; have hR1 : RowB w1 w.heap.size 0 12 (fun _ => 0) := rowB_of hO1; have hb1 : Below w.heap.size w w1 := (Below.refl _ _).grown hgr1 (Nat.le_refl _) (fun k hk => by cases hk); clear hgr1 hO1)
    | (refine wpList_app0 rfl rfl rfl hR1 rfl ?_))
  have hR2 : RowB w1 w.heap.size 0 12 L := hR1.congr (fun i hi => absurd hi (by omega))
  have hb2 := hb1
  clear hR1 hb1
  go_loopw [3, 4] (fun v i wr => ∃ k : Nat, k ≤ 12 ∧ i = .int .i64 k ∧ v = .slice (some ⟨w.heap.size, 0, none⟩) k 12 ∧ RowB wr w.heap.size k 12 L ∧ Below w.heap.size w wr) (fun _ i _ => (12 - intOf i).toNat)
  case atStart => exact ⟨0, by decide, rfl, rfl, hR2, hb2⟩
  case round =>
    clear hR2 hb2
    obtain ⟨k, hk, hi', hv, hR, hb⟩ := hrel
    subst hi' hv
    by_cases h12 : k = 12
    · subst h12
      have hP := Lib.hid (hfin.out wr hR hb)
      clear hk hR hb
      go_wp2
      go_returns
      exact hP.out
    have hk0 : (0 : Int) ≤ (k : Int) := by omega
    have hk1 : (k : Int) < 12 := by omega
    have hmk := hm.out k
    clear hk h12
    go_wp2_with fail
    refine (markByte_c 1 k (by omega) (by omega) _).mono ?_
    rintro e w3 ⟨rfl, rfl⟩
    have hRa : RowB (wr.alloc (Obj.cells #[.int .u8 (mb 1 k)] 5)) w.heap.size k 12 L := hR.below ((Below.refl _ _).alloc (Nat.le_refl _) _)
    have hba : Below w.heap.size w (wr.alloc (Obj.cells #[.int .u8 (mb 1 k)] 5)) := hb.alloc hb.size _
    have hca : ∀ j, j < 1 → (wr.alloc (Obj.cells #[.int .u8 (mb 1 k)] 5)).cell? ((⟨wr.heap.size, 0, none⟩ : Addr).add j) = some (.int .u8 (L (k + j))) := fun j hj => by
      obtain rfl : j = 0 := by omega
      rw [add_o, show k + 0 = k from rfl, hmk]
      exact (Blk.new wr _ _).cell 0
    replace hmk := Lib.hid hmk
    generalize mb 1 k = x at *
    clear hR hb
    go_wp2_with (refine wpList_app rfl rfl rfl hRa rfl L (fun i hi => rfl) hca (by omega) ?_; intro g2 c2 w4 hR4 hgr4 hcase4; have hg4 : g2 = w.heap.size ∧ c2 = 12 := (by rcases hcase4 with h | h; exact ⟨h.1, h.2.1⟩; omega); obtain ⟨hg4a, hg4b⟩ := hg4; subst hg4a hg4b; have hb4 : Below w.heap.size w w4 := hba.grown hgr4 hba.size (fun k hk => by injection hk; omega); clear hgr4 hcase4 hca hRa hba)
    exact ⟨⟨k + 1, by omega, rfl, rfl, hR4, hb4⟩, by simp [intOf]; omega⟩

end Go.Proofs.YtpaldgajkhmhbaaDoor
