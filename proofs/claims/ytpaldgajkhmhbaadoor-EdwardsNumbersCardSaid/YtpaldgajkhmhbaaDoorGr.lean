/- The walk of Read: a number from 32 bytes. -/
import Derived.Test.YtpaldgajkhmhbaaDoorN12
namespace Dg
def bd (b : Nat → Int) (j : Nat) : Int := b (2 * j) + b (2 * j + 1) * 256
theorem bd_di {b : Nat → Int} (hr : ∀ j, 0 ≤ b j ∧ b j < 256) : Di (bd b) 16 := fun j _ => by
  have h1 := hr (2 * j)
  have h2 := hr (2 * j + 1)
  unfold bd
  omega
end Dg
namespace Go.Proofs.YtpaldgajkhmhbaaDoor
open Go.RowKit
def readF (b : Nat → Int) : Nat → Int := if lessB (Dg.bd b) pd then Dg.bd b else fun _ => 0
def rdTL (d pq : Nat → Int) : List (Value → World → Prop) := [
  Eq1 (.agg (av d)),
  Eq1 (.agg (av pq)),
  Eq1 (.bool true),
  Eq1 (.bool false)]
theorem rdTS (d pq : Nat → Int) : ∀ j x' q q', (rdTL d pq).getD j (fun _ _ => True) x' q → Below q.heap.size q q' → (rdTL d pq).getD j (fun _ _ => True) x' q' := by
  refine sta_all _ ?_
  simp only [rdTL, List.mem_cons, forall_eq_or_imp, List.not_mem_nil, false_implies, implies_true, and_true]
  exact ⟨sta_eq _, sta_eq _, sta_eq _, sta_eq _⟩
def rdFL (d pq : Nat → Int) : List (Value → World → Prop) := [
  Eq1 (.agg (av d)),
  Eq1 (.agg (av pq)),
  Eq1 (.bool false),
  Eq1 (.bool true)]
theorem rdFS (d pq : Nat → Int) : ∀ j x' q q', (rdFL d pq).getD j (fun _ _ => True) x' q → Below q.heap.size q q' → (rdFL d pq).getD j (fun _ _ => True) x' q' := by
  refine sta_all _ ?_
  simp only [rdFL, List.mem_cons, forall_eq_or_imp, List.not_mem_nil, false_implies, implies_true, and_true]
  exact ⟨sta_eq _, sta_eq _, sta_eq _, sta_eq _⟩
set_option maxRecDepth 20000 in
set_option maxRecDepth 20000 in
set_option maxHeartbeats 2000000 in
theorem read_s (b : Nat → Int) (g o c : Nat) (w : World) (hB : ∀ j, j < 32 → w.cell? ⟨g, o + j, none⟩ = some (.int .u8 (b j))) (hr : ∀ j, 0 ≤ b j ∧ b j < 256) (hg : g < w.heap.size) :
    Calls Tryd.prog 59 #[.slice (some ⟨g, o, none⟩) 32 c] w (PostR2 (readF b) (lessB (Dg.bd b) pd) w) := by
  have hPc := p_c
  have hL := less_c (Dg.bd b) pd (Dg.bd_di hr) pd_di
  have hF : (lessB (Dg.bd b) pd = true → readF b = Dg.bd b) ∧ (lessB (Dg.bd b) pd = false → readF b = fun _ => 0) := ⟨fun h => by unfold readF; rw [if_pos h], fun h => by unfold readF; rw [if_neg (by rw [h]; simp)]⟩
  generalize readF b = z at *
  generalize lessB (Dg.bd b) pd = B at *
  replace hF := Lib.hid hF
  generalize pd = pq at *
  replace hPc := Lib.hid hPc
  replace hL := Lib.hid hL
  replace hB := Lib.hid hB
  replace hr := Lib.hid hr
  go_enter Tryd.func59, Tryd.ntmps59
  go_upto_region 5 with (fail)
  refine at_world (fun W0 hW => ?_)
  have hZ : Blk W0 (w.heap.size) 33 (av fun _ => 0) := by rw [hW]; exact (Blk.new _ _ _).alloc _
  have hC : Blk W0 (w.heap.size + 1) 33 (av fun _ => 0) := by rw [hW]; exact blk_at (by simp) (Blk.new _ _ _)
  have hb0 : Below w.heap.size w W0 := by rw [hW]; go_grown
  clear hW
  go_loopw [5] (fun i wr => ∃ (m : Nat) (t : Nat → Int), m ≤ 16 ∧ i = .int .i64 m ∧ (∀ j, j < m → t j = Dg.bd b j) ∧ Blk wr (w.heap.size + 1) 33 (av t) ∧ Blk wr w.heap.size 33 (av fun _ => 0) ∧ Below w.heap.size w wr) (fun i _ => (16 - intOf i).toNat)
  case atStart => exact ⟨0, _, by decide, rfl, fun j h => absurd h (by omega), hC, hZ, hb0⟩
  case round =>
    clear hC hZ hb0
    obtain ⟨m, t, hm, hi, hI, hC, hZ, hb0⟩ := hrel
    subst hi
    by_cases h16 : m = 16
    · subst h16
      rw [av_congr hI] at hC
      clear hI hm hB hr
      generalize Dg.bd b = d at *
      cases B
      · have hz := Lib.hid (hF.out.2 rfl)
        go_wp2
        refine wp_region_grow2 4 (fun k => (Nat.ble 31 k && Nat.ble k 34)) _ [] (fun j x' q => (rdFL d pq).getD j (fun _ _ => True) x' q) (fun _ => false) (fun f => #[.slice (some ⟨g, o, none⟩) 32 c, undef, .pointer (some ⟨w.heap.size, 0, none⟩), .bool false, .pointer (some ⟨w.heap.size + 1, 0, none⟩), .int .i64 16, .slice (some ⟨g, o, none⟩) 32 c, .int .i64 32, .bool false, undef, .int .i64 16, .bool false, u12, u13, u14, u15, u16, u17, u18, u19, u20, u21, u22, u23, u24, u25, u26, u27, u28, u29, u30, f 31, f 32, f 33, f 34, undef, undef]) (fun f => rfl) (by kernel_rfl) (by kernel_rfl) (by kernel_rfl) (by kernel_rfl) (by kernel_rfl) (rdFS _ _) (fun _ _ _ h => by cases h) ?_ ?_
        · refine steps2_cons ?_ ?_
          · intro f w1 hb hd Q hK
            clear hd
            have hK := Lib.hid hK
            refine ldN rfl rfl rfl (hC.below hb) ?_
            go_wp2
            exact hK.out _ _ rfl (.refl _ _) nof
          refine steps2_cons ?_ ?_
          · intro f w1 hb hd Q hK
            clear hd
            have hK := Lib.hid hK
            go_wp2_with fail
            refine (hPc.out _).mono ?_
            rintro e w2 ⟨rfl, hb2⟩
            go_wp2
            exact hK.out _ _ rfl hb2 nof
          refine steps2_cons ?_ ?_
          · intro f w1 hb hd Q hK
            have e31 : f 31 = .agg (av d) := hd.1 rfl
            have e32 : f 32 = .agg (av pq) := hd.2.1 rfl
            clear hd
            simp only [e31, e32] at hK
            have hK := Lib.hid hK
            go_wp2_with fail
            refine (hL.out _).mono ?_
            rintro e w2 ⟨rfl, hb2⟩
            go_wp2
            exact hK.out _ _ rfl hb2 nof
          refine steps2_cons ?_ ?_
          · intro f w1 hb hd Q hK
            have e33 : f 33 = .bool false := hd.1 rfl
            clear hd
            simp only [e33] at hK
            have hK := Lib.hid hK
            go_wp2
            exact hK.out _ _ rfl (.refl _ _) nof
          trivial
        intro f w1 hb hf hne
        refine wpList_nil ?_
        have d34 : f 34 = .bool true := hf 3 _ _ (by decide) rfl rfl
        replace hC := hC.below hb
        replace hZ := hZ.below hb
        replace hb0 := hb0.trans (hb.mono hb0.size)
        clear hf hne hb
        simp only [d34]
        go_wp2_with (first | (refine ldN rfl rfl rfl hC ?_) | (refine stN rfl rfl rfl rfl hZ ?_; intro W9 hnew hgr9 hsz9) | (refine stN (f := fun _ => 0) rfl rfl rfl rfl hZ ?_; intro W9 hnew hgr9 hsz9))
        exact retN2 rfl rfl hnew rfl rfl ⟨by rw [hz.out], hb0.grown hgr9 hb0.size (fun k h => by injection h; omega)⟩
      have hz := Lib.hid (hF.out.1 rfl)
      go_wp2
      refine wp_region_grow2 4 (fun k => (Nat.ble 31 k && Nat.ble k 34)) _ [] (fun j x' q => (rdTL d pq).getD j (fun _ _ => True) x' q) (fun _ => false) (fun f => #[.slice (some ⟨g, o, none⟩) 32 c, undef, .pointer (some ⟨w.heap.size, 0, none⟩), .bool false, .pointer (some ⟨w.heap.size + 1, 0, none⟩), .int .i64 16, .slice (some ⟨g, o, none⟩) 32 c, .int .i64 32, .bool false, undef, .int .i64 16, .bool false, u12, u13, u14, u15, u16, u17, u18, u19, u20, u21, u22, u23, u24, u25, u26, u27, u28, u29, u30, f 31, f 32, f 33, f 34, undef, undef]) (fun f => rfl) (by kernel_rfl) (by kernel_rfl) (by kernel_rfl) (by kernel_rfl) (by kernel_rfl) (rdTS _ _) (fun _ _ _ h => by cases h) ?_ ?_
      · refine steps2_cons ?_ ?_
        · intro f w1 hb hd Q hK
          clear hd
          have hK := Lib.hid hK
          refine ldN rfl rfl rfl (hC.below hb) ?_
          go_wp2
          exact hK.out _ _ rfl (.refl _ _) nof
        refine steps2_cons ?_ ?_
        · intro f w1 hb hd Q hK
          clear hd
          have hK := Lib.hid hK
          go_wp2_with fail
          refine (hPc.out _).mono ?_
          rintro e w2 ⟨rfl, hb2⟩
          go_wp2
          exact hK.out _ _ rfl hb2 nof
        refine steps2_cons ?_ ?_
        · intro f w1 hb hd Q hK
          have e31 : f 31 = .agg (av d) := hd.1 rfl
          have e32 : f 32 = .agg (av pq) := hd.2.1 rfl
          clear hd
          simp only [e31, e32] at hK
          have hK := Lib.hid hK
          go_wp2_with fail
          refine (hL.out _).mono ?_
          rintro e w2 ⟨rfl, hb2⟩
          go_wp2
          exact hK.out _ _ rfl hb2 nof
        refine steps2_cons ?_ ?_
        · intro f w1 hb hd Q hK
          have e33 : f 33 = .bool true := hd.1 rfl
          clear hd
          simp only [e33] at hK
          have hK := Lib.hid hK
          go_wp2
          exact hK.out _ _ rfl (.refl _ _) nof
        trivial
      intro f w1 hb hf hne
      refine wpList_nil ?_
      have d34 : f 34 = .bool false := hf 3 _ _ (by decide) rfl rfl
      replace hC := hC.below hb
      replace hZ := hZ.below hb
      replace hb0 := hb0.trans (hb.mono hb0.size)
      clear hf hne hb
      simp only [d34]
      go_wp2_with (first | (refine ldN rfl rfl rfl hC ?_) | (refine stN rfl rfl rfl rfl hZ ?_; intro W9 hnew hgr9 hsz9) | (refine stN (f := fun _ => 0) rfl rfl rfl rfl hZ ?_; intro W9 hnew hgr9 hsz9))
      exact retN2 rfl rfl hnew rfl rfl ⟨by rw [hz.out], hb0.grown hgr9 hb0.size (fun k h => by injection h; omega)⟩
    have hm16 : m < 16 := by omega
    have hm0 : (0 : Int) ≤ (m : Int) := by omega
    have hm1 : (m : Int) < 16 := by omega
    have c1 := (hb0.cell (p := ⟨g, o + 2 * m, none⟩) hg).trans (hB.out (2 * m) (by omega))
    have c2 := (hb0.cell (p := ⟨g, o + (2 * m + 1), none⟩) hg).trans (hB.out (2 * m + 1) (by omega))
    have r1 := hr.out (2 * m)
    have r2 := hr.out (2 * m + 1)
    have hd : Dg.bd b m = b (2 * m) + b (2 * m + 1) * 256 := rfl
    have hf := hC.frozen m
    have ct := hC.cell m
    rw [av_get _ _ hm16] at ct
    have hi1 : IntKind.i64.wrap (2 * (m : Int)) = ((2 * m : Nat) : Int) := by rw [IntKind.wrap_i64]; omega
    have hi2 : IntKind.i64.wrap (2 * (m : Int) + 1) = ((2 * m + 1 : Nat) : Int) := by rw [IntKind.wrap_i64]; omega
    replace hI := Lib.hid hI
    replace hd := Lib.hid hd
    clear h16 hm
    generalize b (2 * m) = x at *
    generalize b (2 * m + 1) = y at *
    have hx1 : x + y * 256 < 18446744073709551616 := by omega
    go_wp2
    go_region
    have hC' := hC.set_ m (.int .u64 (x + y * 256))
    rw [av_set _ _ _ hm16] at hC'
    have hZ' := hZ.far (p := ⟨w.heap.size + 1, m, none⟩) (by show w.heap.size ≠ w.heap.size + 1; omega) (.int .u64 (x + y * 256))
    have hb' := hb0.setCell (p := ⟨w.heap.size + 1, m, none⟩) (by show w.heap.size ≤ w.heap.size + 1; omega) (.int .u64 (x + y * 256))
    clear hC hZ hb0 c1 c2 ct hf
    go_wp2
    refine ⟨⟨m + 1, _, by omega, rfl, fun j hj => ?_, hC'.drew, hZ'.drew, hb'.drew⟩, by simp [intOf]; omega⟩
    by_cases e : j = m
    · rw [e, Dg.up_same, hd.out]
    rw [Dg.up_ne _ _ e]
    exact hI.out j (by omega)
end Go.Proofs.YtpaldgajkhmhbaaDoor
