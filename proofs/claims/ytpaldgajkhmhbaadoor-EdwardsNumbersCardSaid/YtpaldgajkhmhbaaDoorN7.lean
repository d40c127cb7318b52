/- The walks of half, Odd, Right and From of the reference. -/
import Derived.Test.YtpaldgajkhmhbaaDoorN6
namespace Dg
open Fe (P)
def hT (n m : Nat) : Nat → Int := fun j => if j < m then dg (n / 2) j else dg n j
theorem half_dg (n m : Nat) : dg n m / 2 + dg n (m + 1) % 2 * 32768 = dg (n / 2) m := by
  unfold dg
  rw [Nat.pow_succ, ← Nat.div_div_eq_div_mul, Nat.div_div_eq_div_mul n 2, Nat.mul_comm 2, ← Nat.div_div_eq_div_mul]
  omega
theorem half_last {n : Nat} (h : n < 2 ^ 256) : dg n 15 / 2 = dg (n / 2) 15 := by
  have h2 : n / 65536 ^ 15 < 65536 := by
    rw [Nat.div_lt_iff_lt_mul (by decide)]
    simpa using h
  unfold dg
  rw [Nat.div_div_eq_div_mul n 2, Nat.mul_comm 2, ← Nat.div_div_eq_div_mul]
  omega
theorem hT_up (n m : Nat) (v v2 : Int) (h : v2 = dg (n / 2) m) : up (up (hT n m) m v) m v2 = hT n (m + 1) := by
  funext j
  unfold up hT
  by_cases e : j = m
  · subst e
    rw [if_pos rfl, if_pos (by omega), h]
  rw [if_neg e, if_neg e]
  by_cases h : j < m
  · rw [if_pos h, if_pos (by omega)]
  rw [if_neg h, if_neg (by omega)]
theorem hT_up1 (n m : Nat) (v2 : Int) (h : v2 = dg (n / 2) m) : up (hT n m) m v2 = hT n (m + 1) := by
  have := hT_up n m v2 v2 h
  rw [← this]
  funext j
  unfold up
  split <;> rfl
end Dg
namespace Go.Proofs.YtpaldgajkhmhbaaDoor
open Go.RowKit
theorem or_half (x y : Int) (hx : 0 ≤ x ∧ x < 32768) (hy : 0 ≤ y ∧ y < 2) : bits .or .u64 x (y * 32768) = x + y * 32768 := by
  have hc : ∀ x y, bits .or .u64 x y = bits .or .u64 y x := fun x y => by simp only [bits, BitVec.or_comm]
  have hj := bits_join .u64 64 (by decide) (fun n h h' => by rw [IntKind.wrap_u64]; omega) 15 (y * 32768) x (by omega) (by omega) (by omega) hx.1 (by omega) (by omega)
  rw [hc, hj]
  omega
set_option maxRecDepth 20000 in
set_option maxHeartbeats 2000000 in
theorem rHalf_c (n : Nat) (hn : n < 2 ^ 256) (w : World) : Calls Tryd.prog 88 #[.agg (av (Dg.dg n))] w (PostN (Dg.dg (n / 2)) w) := by
  have hd := Dg.dg_lt n
  have h1 := Dg.half_dg n
  have h2 := Dg.half_last hn
  have hu := Dg.hT_up n
  have hu1 := Dg.hT_up1 n
  have hg0 : ∀ m, Dg.hT n m m = Dg.dg n m := fun m => by unfold Dg.hT; rw [if_neg (by omega)]
  have hg1 : ∀ m, Dg.hT n m (m + 1) = Dg.dg n (m + 1) := fun m => by unfold Dg.hT; rw [if_neg (by omega)]
  have hs : av (Dg.dg n) = av (Dg.hT n 0) := av_congr fun j _ => by unfold Dg.hT; rw [if_neg (by omega)]
  have he : ∀ j, j < 16 → Dg.hT n 16 j = Dg.dg (n / 2) j := fun j hj => by unfold Dg.hT; rw [if_pos hj]
  rw [hs]
  generalize Dg.dg (n / 2) = Z at *
  generalize Dg.hT n = t at *
  generalize Dg.dg n = A at *
  clear hs hn
  replace hd := Lib.hid hd
  replace h1 := Lib.hid h1
  replace h2 := Lib.hid h2
  replace hu := Lib.hid hu
  replace hu1 := Lib.hid hu1
  replace hg0 := Lib.hid hg0
  replace hg1 := Lib.hid hg1
  replace he := Lib.hid he
  go_enter Tryd.func88, Tryd.ntmps88
  go_wp2
  refine at_world (fun W0 hW => ?_)
  have hA : Blk W0 (w.heap.size) 33 (av (t 0)) := by rw [hW]; exact (Blk.new _ _ _).alloc _
  have hZ : Blk W0 (w.heap.size + 1) 33 (av fun _ => 0) := by rw [hW]; exact blk_at (by simp) (Blk.new _ _ _)
  have hb0 : Below w.heap.size w W0 := by rw [hW]; go_grown
  clear hW
  go_loopw [3] (fun i wr => ∃ m : Nat, m ≤ 16 ∧ i = .int .i64 m ∧ Blk wr w.heap.size 33 (av (t m)) ∧ Blk wr (w.heap.size + 1) 33 (av fun _ => 0) ∧ Below w.heap.size w wr) (fun i _ => (16 - intOf i).toNat)
  case atStart => exact ⟨0, by decide, rfl, hA, hZ, hb0⟩
  case round =>
    clear hA hZ hb0
    obtain ⟨m, hm, hi, hA, hZ, hb0⟩ := hrel
    subst hi
    by_cases h16 : m = 16
    · subst h16
      clear hm
      go_wp2_with (first | (refine ldN rfl rfl rfl hA ?_) | (refine stN rfl rfl rfl rfl hZ ?_; intro w3 hnew hgr hsz))
      exact retN rfl rfl hnew rfl (PostN.congr he.out ⟨rfl, hb0.grown hgr hb0.size (fun k h => by injection h; omega)⟩)
    have hm16 : m < 16 := by omega
    have hm0 : (0 : Int) ≤ (m : Int) := by omega
    have hx := hd.out m
    have ca := hA.cell m
    rw [av_get _ _ hm16, hg0.out] at ca
    have hfr := fun j => hA.frozen j
    by_cases h15 : m = 15
    · subst h15
      have hs15 := hu1.out 15 (A 15 / 2) h2.out
      have hA' := hA.set_ 15 (.int .u64 (A 15 / 2))
      rw [av_set _ _ _ hm16, hs15] at hA'
      have hZ' := hZ.far (p := ⟨w.heap.size, 15, none⟩) (by show w.heap.size + 1 ≠ w.heap.size; omega) (.int .u64 (A 15 / 2))
      have hb' := hb0.setCell (p := ⟨w.heap.size, 15, none⟩) (Nat.le_refl _) (.int .u64 (A 15 / 2))
      clear hA hZ hb0 h16 hm hs15
      go_wp2
      exact ⟨⟨16, by omega, rfl, hA', hZ', hb'⟩, by simp [intOf]⟩
    have hm1 : (m : Int) < 15 := by omega
    have hy := hd.out (m + 1)
    have hval := h1.out m
    have cb := hA.cell (m + 1)
    rw [av_get _ _ (by omega), hg1.out] at cb
    have hA1 := hA.set_ m (.int .u64 (A m / 2))
    have hst := hu.out m (A m / 2) _ hval
    rw [av_set _ _ _ hm16] at hA1
    have hA2 := hA1.set_ m (.int .u64 (A m / 2 + A (m + 1) % 2 * 32768))
    rw [av_set _ _ _ hm16, hst] at hA2
    have hZ' := (hZ.far (p := ⟨w.heap.size, m, none⟩) (by show w.heap.size + 1 ≠ w.heap.size; omega) (.int .u64 (A m / 2))).far (p := ⟨w.heap.size, m, none⟩) (by show w.heap.size + 1 ≠ w.heap.size; omega) (.int .u64 (A m / 2 + A (m + 1) % 2 * 32768))
    have hb' := (hb0.setCell (p := ⟨w.heap.size, m, none⟩) (Nat.le_refl _) (.int .u64 (A m / 2))).setCell (p := ⟨w.heap.size, m, none⟩) (Nat.le_refl _) (.int .u64 (A m / 2 + A (m + 1) % 2 * 32768))
    have c1 := hA1.cell m
    have c2 := hA1.cell (m + 1)
    rw [av_get _ _ (by omega)] at c1 c2
    rw [Dg.up_same] at c1
    rw [Dg.up_ne _ _ (by omega), hg1.out] at c2
    have hand := and1_u64 (A (m + 1)) (by omega) (by omega)
    have hor := or_half (A m / 2) (A (m + 1) % 2) (by omega) (by omega)
    clear hA hZ hb0 h16 hm hst hval hA1 h15
    generalize A m = x at *
    generalize A (m + 1) = y at *
    have w1 : IntKind.i64.wrap ((m : Int) + 1) = (m : Int) + 1 := IntWalk.i64_in _ (by omega)
    have w2 : ((m : Int) + 1).toNat = m + 1 := by omega
    have w3 : (0 : Int) ≤ (m : Int) + 1 := by omega
    have w4 : (m : Int) + 1 < 16 := by omega
    have w5 : IntKind.u64.wrap (y % 2 * 32768) = y % 2 * 32768 := by rw [IntKind.wrap_u64, Int.emod_eq_of_lt (by omega) (by omega)]
    go_wp2
    refine wp_region_still_tail 12 (by kernel_rfl) (by kernel_rfl) ?_
    change wpStill _ _ (World.drew _) (fun a' => wpList _ _ _ _ a' (World.drew _)) _ _
    simp only [List.take_succ_cons, List.take_zero, List.drop_succ_cons, List.drop_zero]
    repeat still_step
    refine wpStill_nil ?_
    clear w1 w2 w3 w4 w5
    go_wp2
    exact ⟨⟨m + 1, by omega, rfl, hA2.drew, hZ'.drew, hb'.drew⟩, by simp [intOf]; omega⟩
set_option maxRecDepth 20000 in
set_option maxHeartbeats 2000000 in
theorem rOdd_c (n : Nat) (w : World) : Calls Tryd.prog 90 #[.agg (av (Dg.dg n))] w (PostV (.bool (decide (n % 2 = 1))) w) := by
  have h0 := Dg.dg_lt n 0
  have he : (Dg.dg n 0 % 2 == 1) = decide (n % 2 = 1) := by
    have : Dg.dg n 0 % 2 = ((n % 2 : Nat) : Int) := by
      unfold Dg.dg
      rw [Nat.pow_zero, Nat.div_one]
      omega
    rw [this]
    by_cases h : n % 2 = 1
    · rw [h]; rfl
    rw [show n % 2 = 0 by omega]; rfl
  generalize decide (n % 2 = 1) = b at *
  generalize Dg.dg n = A at *
  have hand := and1_u64 (A 0) (by omega) (by omega)
  have g0 : (av A)[0]? = some (.int .u64 (A 0)) := rfl
  have c0 : ∀ w : World, (w.alloc (Obj.cells (av A) 33)).cell? ⟨w.heap.size, 0, none⟩ = some (.int .u64 (A 0)) := fun w => (Blk.new w 33 (av A)).cell 0
  clear h0
  go_enter Tryd.func90, Tryd.ntmps90
  go_wp2
  go_returns
  exact ⟨by rw [← he]; rfl, by go_grown⟩
end Go.Proofs.YtpaldgajkhmhbaaDoor
