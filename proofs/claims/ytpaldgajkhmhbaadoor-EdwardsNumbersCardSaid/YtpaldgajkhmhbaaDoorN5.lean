/- The walk of Mul of the reference. -/
import Derived.Test.YtpaldgajkhmhbaaDoorN4
import Derived.StillTailTactics
namespace Dg
/-- products, summed: after i parts of the one, and k of the other with the next -/
def Mc (f g t : Nat → Int) (i k : Nat) : Prop := (∀ j, j < 16 → 0 ≤ t j ∧ t j ≤ (16 * i + k) * 163208757248) ∧ ∃ q, sm t 16 = sm f i * sm g 16 + f i * 65536 ^ i * sm g k + Fe.p * q
theorem mc_0 (f g : Nat → Int) : Mc f g (fun _ => 0) 0 0 := by
  have hz : ∀ k, sm (fun _ => 0) k = 0 := fun k => by
    induction k with
    | zero => rfl
    | succ k ih => simp only [sm]; rw [ih]; simp
  exact ⟨fun j _ => ⟨Int.le_refl _, Int.le_refl _⟩, 0, by rw [hz]; simp [sm]⟩
theorem mc_next {f g t : Nat → Int} {i : Nat} (h : Mc f g t i 16) : Mc f g t (i + 1) 0 := by
  obtain ⟨h1, q, h2⟩ := h
  refine ⟨fun j hj => ?_, q, ?_⟩
  · have := h1 j hj
    omega
  rw [h2]
  simp only [sm]
  rw [Int.add_mul]
  simp
theorem mc_bd {f g t : Nat → Int} (h : Mc f g t 16 0) : Bd t := fun j hj => by
  have := h.1 j hj
  omega
theorem prod16 {x y : Int} (hx : 0 ≤ x ∧ x < 65536) (hy : 0 ≤ y ∧ y < 65536) : 0 ≤ x * y ∧ x * y ≤ 4294836225 := by
  have h1 := Int.mul_nonneg hx.1 hy.1
  have h2 : x * y ≤ 65535 * y := Int.mul_le_mul_of_nonneg_right (by omega) hy.1
  omega
theorem mc_low {f g t : Nat → Int} {i k s : Nat} (hs : s = i + k) (h16 : s < 16) (hx : 0 ≤ f i ∧ f i < 65536) (hy : 0 ≤ g k ∧ g k < 65536) (h : Mc f g t i k) : Mc f g (up t s (t s + f i * g k)) i (k + 1) := by
  obtain ⟨h1, q, h2⟩ := h
  have hp := prod16 hx hy
  refine ⟨fun j hj => ?_, q, ?_⟩
  · have hj1 := h1 j hj
    by_cases e : j = s
    · rw [e, up_same]
      rw [e] at hj1
      omega
    rw [up_ne _ _ e]
    omega
  rw [sm_up, if_pos h16, h2]
  rw [show sm g (k + 1) = sm g k + g k * 65536 ^ k from rfl]
  subst hs
  rw [Int.pow_add]
  generalize (65536 : Int) ^ i = X
  generalize (65536 : Int) ^ k = Y
  grind
theorem mc_high {f g t : Nat → Int} {i k s : Nat} (hs : 16 + s = i + k) (h16 : s < 16) (hx : 0 ≤ f i ∧ f i < 65536) (hy : 0 ≤ g k ∧ g k < 65536) (h : Mc f g t i k) : Mc f g (up t s (t s + 38 * f i * g k)) i (k + 1) := by
  obtain ⟨h1, q, h2⟩ := h
  have hp := prod16 hx hy
  have e38 : 38 * f i * g k = 38 * (f i * g k) := Int.mul_assoc ..
  refine ⟨fun j hj => ?_, q - 2 * (f i * g k * 65536 ^ s), ?_⟩
  · have hj1 := h1 j hj
    by_cases e : j = s
    · rw [e, up_same, e38]
      rw [e] at hj1
      omega
    rw [up_ne _ _ e]
    omega
  rw [sm_up, if_pos h16, h2, e38, show sm g (k + 1) = sm g k + g k * 65536 ^ k from rfl]
  have hX : (65536 : Int) ^ i * 65536 ^ k = M * 65536 ^ s := by rw [← Int.pow_add, ← hs, Int.pow_add, M_eq]
  have hM : M = 2 * Fe.p + 38 := by unfold M Fe.p; decide
  rw [hM] at hX
  generalize (65536 : Int) ^ i = X at *
  generalize (65536 : Int) ^ k = Y at *
  generalize (65536 : Int) ^ s = Z at *
  have : f i * X * (g k * Y) = f i * g k * (X * Y) := by grind
  rw [Int.mul_add, this, hX]
  grind
end Dg
namespace Go.Proofs.YtpaldgajkhmhbaaDoor
open Go.RowKit
set_option maxRecDepth 20000 in
set_option maxHeartbeats 2000000 in
theorem rMul_f (f g : Nat → Int) (n : Nat) (hf : Dg.Di f 16) (hg : Dg.Di g 16) (hn : Dg.sm f 16 * Dg.sm g 16 % Fe.p = n) (w : World) : Calls Tryd.prog 60 #[.agg (av f), .agg (av g)] w (PostN (Dg.dg n) w) := by
  have hend : ∀ t, Dg.Mc f g t 16 0 → ∀ w, Calls Tryd.prog 86 #[.agg (av t)] w (PostN (Dg.dg n) w) := fun t h w => by
    have h1 := whole_c t (Dg.mc_bd h) w
    obtain ⟨_, q, h2⟩ := h
    rw [dg_nf (n := n) (by rw [h2, Int.add_mul_emod_self_left, show Dg.sm g 0 = 0 from rfl, Int.mul_zero, Int.add_zero, hn])] at h1
    exact h1
  generalize Dg.dg n = z at *
  replace hend := Lib.hid hend
  replace hf := Lib.hid hf
  replace hg := Lib.hid hg
  clear hn
  go_enter Tryd.func60, Tryd.ntmps60
  go_wp2
  refine at_world (fun W0 hW => ?_)
  have hA : Blk W0 (w.heap.size) 33 (av f) := by rw [hW]; exact (((Blk.new _ _ _).alloc _).alloc _).alloc _
  have hB : Blk W0 (w.heap.size + 1) 33 (av g) := by rw [hW]; exact blk_at (by simp) (((Blk.new _ _ _).alloc _).alloc _)
  have hZ : Blk W0 (w.heap.size + 1 + 1) 33 (av fun _ => 0) := by rw [hW]; exact blk_at (by simp) ((Blk.new _ _ _).alloc _)
  have hT : Blk W0 (w.heap.size + 1 + 1 + 1) 33 (av fun _ => 0) := by rw [hW]; exact blk_at (by simp) (Blk.new _ _ _)
  have hb0 : Below w.heap.size w W0 := by rw [hW]; go_grown
  clear hW
  go_loopw [6] (fun i wr => ∃ (m : Nat) (t : Nat → Int), m ≤ 16 ∧ i = .int .i64 m ∧ Dg.Mc f g t m 0 ∧ Blk wr w.heap.size 33 (av f) ∧ Blk wr (w.heap.size + 1) 33 (av g) ∧ Blk wr (w.heap.size + 1 + 1) 33 (av fun _ => 0) ∧ Blk wr (w.heap.size + 1 + 1 + 1) 33 (av t) ∧ Below w.heap.size w wr) (fun i _ => (16 - intOf i).toNat)
  case atStart => exact ⟨0, _, by decide, rfl, Dg.mc_0 f g, hA, hB, hZ, hT, hb0⟩
  case round =>
    clear hA hB hZ hT hb0
    obtain ⟨m, t, hm, hi, hM, hA, hB, hZ, hT, hb0⟩ := hrel
    subst hi
    by_cases h16 : m = 16
    · subst h16
      have hw := Lib.hid (hend.out t hM)
      clear hM hm
      go_wp2_with (refine ldN rfl rfl rfl hT ?_)
      refine (hw.out _).mono ?_
      rintro e w2 ⟨rfl, hb2⟩
      replace hZ := hZ.below hb2
      replace hb0 := hb0.trans (hb2.mono hb0.size)
      go_wp2_with (refine stN rfl rfl rfl rfl hZ ?_; intro w3 hnew hgr hsz)
      exact retN rfl rfl hnew rfl ⟨rfl, hb0.grown hgr hb0.size (fun k h => by injection h; omega)⟩
    have hm16 : m < 16 := by omega
    have hm0 : (0 : Int) ≤ (m : Int) := by omega
    have hm1 : (m : Int) < 16 := by omega
    have h1 := hf.out m hm16
    clear h16 hm
    go_wp2
    obtain ⟨wo, rfl⟩ : ∃ wo : World, wo = wr := ⟨_, rfl⟩
    go_loopw [7] (fun i wx => ∃ (k : Nat) (t : Nat → Int), k ≤ 16 ∧ i = .int .i64 k ∧ Dg.Mc f g t m k ∧ Blk wx w.heap.size 33 (av f) ∧ Blk wx (w.heap.size + 1) 33 (av g) ∧ Blk wx (w.heap.size + 1 + 1) 33 (av fun _ => 0) ∧ Blk wx (w.heap.size + 1 + 1 + 1) 33 (av t) ∧ Below w.heap.size w wx) (fun i _ => (16 - intOf i).toNat)
    case atStart => exact ⟨0, t, by decide, rfl, hM, hA, hB, hZ, hT, hb0⟩
    case round =>
      clear hA hB hZ hT hb0 hM
      obtain ⟨k, t, hk, hi, hM, hA, hB, hZ, hT, hb0⟩ := hrel
      subst hi
      by_cases h16 : k = 16
      · subst h16
        have hM' := Lib.hid (Dg.mc_next hM)
        clear hM hk
        go_wp2
        exact ⟨⟨m + 1, t, by omega, rfl, hM'.out, hA, hB, hZ, hT, hb0⟩, by simp [intOf]; omega⟩
      have hk16 : k < 16 := by omega
      have hk0 : (0 : Int) ≤ (k : Int) := by omega
      have hk1 : (k : Int) < 16 := by omega
      have h2 := hg.out k hk16
      have ca := hA.cell m
      have cb := hB.cell k
      rw [av_get _ _ hm16] at ca
      rw [av_get _ _ hk16] at cb
      have hp := Dg.prod16 h1 h2
      have hfr := fun j => hT.frozen j
      clear h16 hk
      by_cases hs : m + k < 16
      · obtain ⟨s, hse⟩ : ∃ s, s = m + k := ⟨_, rfl⟩
        have hs16 : s < 16 := by omega
        have hst := Dg.mc_low hse hs16 h1 h2 hM
        have ht := hM.1 s hs16
        have hsi : (m : Int) + (k : Int) = (s : Int) := by omega
        have hs0 : (0 : Int) ≤ (s : Int) := by omega
        have hs1 : (s : Int) < 16 := by omega
        have hsw : IntKind.i64.wrap (s : Int) = (s : Int) := IntWalk.i64_in _ (by omega)
        have hst2 : ((s : Int)).toNat = s := Int.toNat_natCast s
        have ct := hT.cell s
        rw [av_get _ _ hs16] at ct
        replace hst := Lib.hid hst
        clear hM hs hse
        have hT' := hT.set_ s (.int .u64 (t s + f m * g k))
        rw [av_set _ _ _ hs16] at hT'
        have hA' := hA.far (p := ⟨w.heap.size + 1 + 1 + 1, s, none⟩) (by show w.heap.size ≠ w.heap.size + 1 + 1 + 1; omega) (.int .u64 (t s + f m * g k))
        have hB' := hB.far (p := ⟨w.heap.size + 1 + 1 + 1, s, none⟩) (by show w.heap.size + 1 ≠ w.heap.size + 1 + 1 + 1; omega) (.int .u64 (t s + f m * g k))
        have hZ' := hZ.far (p := ⟨w.heap.size + 1 + 1 + 1, s, none⟩) (by show w.heap.size + 1 + 1 ≠ w.heap.size + 1 + 1 + 1; omega) (.int .u64 (t s + f m * g k))
        have hb' := hb0.setCell (p := ⟨w.heap.size + 1 + 1 + 1, s, none⟩) (by show w.heap.size ≤ w.heap.size + 1 + 1 + 1; omega) (.int .u64 (t s + f m * g k))
        clear hA hB hZ hT hb0
        have hbt : t s ≤ 41944650612736 := by omega
        replace ht := ht.1
        generalize f m = x at *
        generalize g k = y at *
        generalize t s = v at *
        have w1 : IntKind.u64.wrap (x * y) = x * y := by rw [IntKind.wrap_u64, Int.emod_eq_of_lt (by omega) (by omega)]
        have w2 : IntKind.u64.wrap (v + x * y) = v + x * y := by rw [IntKind.wrap_u64, Int.emod_eq_of_lt (by omega) (by omega)]
        clear hp ht hbt
        go_wp2
        refine wp_region_still_tail 17 (by kernel_rfl) (by kernel_rfl) ?_
        change wpStill _ _ (World.drew _) (fun a' => wpList _ _ _ _ a' (World.drew _)) _ _
        simp only [List.take_succ_cons, List.take_zero, List.drop_succ_cons, List.drop_zero]
        repeat still_step
        refine wpStill_nil ?_
        clear hsi hsw hst2 w1 w2
        go_wp2
        exact ⟨⟨k + 1, _, by omega, rfl, hst.out, hA'.drew, hB'.drew, hZ'.drew, hT'.drew, hb'.drew⟩, by simp [intOf]; omega⟩
      obtain ⟨s, hse⟩ : ∃ s, 16 + s = m + k := ⟨m + k - 16, by omega⟩
      obtain ⟨e, hee⟩ : ∃ e, e = m + k := ⟨_, rfl⟩
      have hs16 : s < 16 := by omega
      have hst := Dg.mc_high hse hs16 h1 h2 hM
      have ht := hM.1 s hs16
      have hsi : (m : Int) + (k : Int) = (e : Int) := by omega
      have hs0 : (0 : Int) ≤ (s : Int) := by omega
      have hs1 : (s : Int) < 16 := by omega
      have he16 : ¬ (e : Int) < 16 := by omega
      have hes : (e : Int) - 16 = (s : Int) := by omega
      have hew : IntKind.i64.wrap (e : Int) = (e : Int) := IntWalk.i64_in _ (by omega)
      have hsw : IntKind.i64.wrap (s : Int) = (s : Int) := IntWalk.i64_in _ (by omega)
      have hst2 : ((s : Int)).toNat = s := Int.toNat_natCast s
      have ct := hT.cell s
      rw [av_get _ _ hs16] at ct
      replace hst := Lib.hid hst
      clear hM hs hse hee
      have hT' := hT.set_ s (.int .u64 (t s + 38 * f m * g k))
      rw [av_set _ _ _ hs16] at hT'
      have hA' := hA.far (p := ⟨w.heap.size + 1 + 1 + 1, s, none⟩) (by show w.heap.size ≠ w.heap.size + 1 + 1 + 1; omega) (.int .u64 (t s + 38 * f m * g k))
      have hB' := hB.far (p := ⟨w.heap.size + 1 + 1 + 1, s, none⟩) (by show w.heap.size + 1 ≠ w.heap.size + 1 + 1 + 1; omega) (.int .u64 (t s + 38 * f m * g k))
      have hZ' := hZ.far (p := ⟨w.heap.size + 1 + 1 + 1, s, none⟩) (by show w.heap.size + 1 + 1 ≠ w.heap.size + 1 + 1 + 1; omega) (.int .u64 (t s + 38 * f m * g k))
      have hb' := hb0.setCell (p := ⟨w.heap.size + 1 + 1 + 1, s, none⟩) (by show w.heap.size ≤ w.heap.size + 1 + 1 + 1; omega) (.int .u64 (t s + 38 * f m * g k))
      clear hA hB hZ hT hb0
      have hbt : t s ≤ 41944650612736 := by omega
      have e38 : 38 * f m * g k = 38 * (f m * g k) := Int.mul_assoc ..
      have w1 : IntKind.u64.wrap (38 * f m) = 38 * f m := by rw [IntKind.wrap_u64, Int.emod_eq_of_lt (by omega) (by omega)]
      have w2 : IntKind.u64.wrap (38 * f m * g k) = 38 * f m * g k := by rw [e38, IntKind.wrap_u64, Int.emod_eq_of_lt (by omega) (by omega)]
      have w3 : IntKind.u64.wrap (t s + 38 * f m * g k) = t s + 38 * f m * g k := by rw [e38, IntKind.wrap_u64, Int.emod_eq_of_lt (by omega) (by omega)]
      clear e38 hp ht hbt
      generalize f m = x at *
      generalize g k = y at *
      generalize t s = v at *
      go_wp2
      refine wp_region_still_tail 20 (by kernel_rfl) (by kernel_rfl) ?_
      change wpStill _ _ (World.drew _) (fun a' => wpList _ _ _ _ a' (World.drew _)) _ _
      simp only [List.take_succ_cons, List.take_zero, List.drop_succ_cons, List.drop_zero]
      repeat still_step
      refine wpStill_nil ?_
      clear hsi hsw hst2 w1 w2 w3 hew hes
      go_wp2
      exact ⟨⟨k + 1, _, by omega, rfl, hst.out, hA'.drew, hB'.drew, hZ'.drew, hT'.drew, hb'.drew⟩, by simp [intOf]; omega⟩
theorem rMul_c (x y : Nat) (hx : x < Fe.P) (hy : y < Fe.P) (w : World) : Calls Tryd.prog 60 #[.agg (av (Dg.dg x)), .agg (av (Dg.dg y))] w (PostN (Dg.dg (x * y % Fe.P)) w) := by
  refine rMul_f _ _ _ (Dg.dg_di x 16) (Dg.dg_di y 16) ?_ w
  rw [Dg.smP hx, Dg.smP hy, Dg.p_P]
  rfl
end Go.Proofs.YtpaldgajkhmhbaaDoor
