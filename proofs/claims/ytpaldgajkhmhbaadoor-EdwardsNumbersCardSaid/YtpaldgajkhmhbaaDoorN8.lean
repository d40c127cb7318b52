/- The walks of Right and From of the reference. -/
import Derived.Test.YtpaldgajkhmhbaaDoorN7
namespace Go.Proofs.YtpaldgajkhmhbaaDoor
open Go.RowKit
def frT (a0 a1 a2 a3 a4 : Int) : Nat → Int := fun j => if j = 0 then a0 % 4294967296 else if j = 2 then a0 / 4294967296 else if j = 3 then a1 % 4294967296 * 8 else if j = 5 then a1 / 4294967296 * 8 else if j = 6 then a2 % 4294967296 * 64 else if j = 8 then a2 / 4294967296 * 64 else if j = 9 then a3 % 4294967296 * 512 else if j = 11 then a3 / 4294967296 * 512 else if j = 12 then a4 % 4294967296 * 4096 else if j = 14 then a4 / 4294967296 * 4096 else 0
theorem frT_sm (a0 a1 a2 a3 a4 : Int) : Dg.sm (frT a0 a1 a2 a3 a4) 16 = Fe.val ⟨a0, a1, a2, a3, a4⟩ := by
  simp only [Dg.sm, frT]
  simp only [Nat.reduceEqDiff, reduceIte, Int.reducePow, Fe.val]
  omega
theorem frT_bd {a0 a1 a2 a3 a4 : Int} (h : Fe.R ⟨a0, a1, a2, a3, a4⟩) : Dg.Bd (frT a0 a1 a2 a3 a4) := fun j hj => by
  simp only [Fe.R] at h
  rcases lt16 hj with rfl | rfl | rfl | rfl | rfl | rfl | rfl | rfl | rfl | rfl | rfl | rfl | rfl | rfl | rfl | rfl <;> simp only [frT, Nat.reduceEqDiff, reduceIte] <;> omega
theorem and32 (y : Int) (h0 : 0 ≤ y) (h1 : y < 18446744073709551616) : bits .and .u64 y 4294967295 = y % 4294967296 :=
  bits_mask .u64 64 (by decide) (fun n h h' => by rw [IntKind.wrap_u64]; omega) 32 (by decide) y h0 (by omega)
set_option maxRecDepth 20000 in
set_option maxHeartbeats 4000000 in
theorem rFrom_c (a0 a1 a2 a3 a4 : Int) (hR : Fe.R ⟨a0, a1, a2, a3, a4⟩) (w : World) : Calls Tryd.prog 73 #[.agg #[.int .u64 a0, .int .u64 a1, .int .u64 a2, .int .u64 a3, .int .u64 a4]] w (PostN (Dg.dg (Fe.nv ⟨a0, a1, a2, a3, a4⟩)) w) := by
  have hw : ∀ w, Calls Tryd.prog 86 #[.agg #[.int .u64 (a0 % 4294967296), .int .u64 0, .int .u64 (a0 / 4294967296), .int .u64 (a1 % 4294967296 * 8), .int .u64 0, .int .u64 (a1 / 4294967296 * 8), .int .u64 (a2 % 4294967296 * 64), .int .u64 0, .int .u64 (a2 / 4294967296 * 64), .int .u64 (a3 % 4294967296 * 512), .int .u64 0, .int .u64 (a3 / 4294967296 * 512), .int .u64 (a4 % 4294967296 * 4096), .int .u64 0, .int .u64 (a4 / 4294967296 * 4096), .int .u64 0]] w (PostN (Dg.dg (Fe.nv ⟨a0, a1, a2, a3, a4⟩)) w) := fun w => by
    have h := whole_c _ (frT_bd hR) w
    rw [dg_nf (n := Fe.nv ⟨a0, a1, a2, a3, a4⟩) (by rw [frT_sm, Fe.nv_int])] at h
    exact h
  simp only [Fe.R] at hR
  obtain ⟨h0, h1, h2, h3, h4⟩ := hR
  generalize Dg.dg (Fe.nv ⟨a0, a1, a2, a3, a4⟩) = z at *
  replace hw := Lib.hid hw
  have n0 := and32 a0 (by omega) (by omega)
  have n1 := and32 a1 (by omega) (by omega)
  have n2 := and32 a2 (by omega) (by omega)
  have n3 := and32 a3 (by omega) (by omega)
  have n4 := and32 a4 (by omega) (by omega)
  have s2 : IntKind.i64.wrap 2 = 2 := by decide
  have s5 : IntKind.i64.wrap 5 = 5 := by decide
  have s8 : IntKind.i64.wrap 8 = 8 := by decide
  have s11 : IntKind.i64.wrap 11 = 11 := by decide
  have s14 : IntKind.i64.wrap 14 = 14 := by decide
  have wl0 : IntKind.u64.wrap (a0 % 4294967296) = a0 % 4294967296 := by rw [IntKind.wrap_u64, Int.emod_eq_of_lt (by omega) (by omega)]
  have wh0 : IntKind.u64.wrap (a0 / 4294967296) = a0 / 4294967296 := by rw [IntKind.wrap_u64, Int.emod_eq_of_lt (by omega) (by omega)]
  have wl1 : IntKind.u64.wrap (a1 % 4294967296 * 8) = a1 % 4294967296 * 8 := by rw [IntKind.wrap_u64, Int.emod_eq_of_lt (by omega) (by omega)]
  have wh1 : IntKind.u64.wrap (a1 / 4294967296 * 8) = a1 / 4294967296 * 8 := by rw [IntKind.wrap_u64, Int.emod_eq_of_lt (by omega) (by omega)]
  have wl2 : IntKind.u64.wrap (a2 % 4294967296 * 64) = a2 % 4294967296 * 64 := by rw [IntKind.wrap_u64, Int.emod_eq_of_lt (by omega) (by omega)]
  have wh2 : IntKind.u64.wrap (a2 / 4294967296 * 64) = a2 / 4294967296 * 64 := by rw [IntKind.wrap_u64, Int.emod_eq_of_lt (by omega) (by omega)]
  have wl3 : IntKind.u64.wrap (a3 % 4294967296 * 512) = a3 % 4294967296 * 512 := by rw [IntKind.wrap_u64, Int.emod_eq_of_lt (by omega) (by omega)]
  have wh3 : IntKind.u64.wrap (a3 / 4294967296 * 512) = a3 / 4294967296 * 512 := by rw [IntKind.wrap_u64, Int.emod_eq_of_lt (by omega) (by omega)]
  have wl4 : IntKind.u64.wrap (a4 % 4294967296 * 4096) = a4 % 4294967296 * 4096 := by rw [IntKind.wrap_u64, Int.emod_eq_of_lt (by omega) (by omega)]
  have wh4 : IntKind.u64.wrap (a4 / 4294967296 * 4096) = a4 / 4294967296 * 4096 := by rw [IntKind.wrap_u64, Int.emod_eq_of_lt (by omega) (by omega)]
  go_enter Tryd.func73, Tryd.ntmps73
  go_wp2
  refine wp_loop_rounds 6 ?_
  rw [rounds_succ]
  go_wp2
  refine wp_region_still_tail 12 (by kernel_rfl) (by kernel_rfl) ?_
  change wpStill _ _ (World.drew _) (fun a' => wpList _ _ _ _ a' (World.drew _)) _ _
  simp only [List.take_succ_cons, List.take_zero, List.drop_succ_cons, List.drop_zero]
  repeat still_step
  refine wpStill_nil ?_
  go_wp2
  refine wp_region_still_tail 14 (by kernel_rfl) (by kernel_rfl) ?_
  change wpStill _ _ (World.drew _) (fun a' => wpList _ _ _ _ a' (World.drew _)) _ _
  simp only [List.take_succ_cons, List.take_zero, List.drop_succ_cons, List.drop_zero]
  repeat still_step
  refine wpStill_nil ?_
  go_wp2
  rw [rounds_succ]
  go_wp2
  refine wp_region_still_tail 12 (by kernel_rfl) (by kernel_rfl) ?_
  change wpStill _ _ (World.drew _) (fun a' => wpList _ _ _ _ a' (World.drew _)) _ _
  simp only [List.take_succ_cons, List.take_zero, List.drop_succ_cons, List.drop_zero]
  repeat still_step
  refine wpStill_nil ?_
  go_wp2
  refine wp_region_still_tail 14 (by kernel_rfl) (by kernel_rfl) ?_
  change wpStill _ _ (World.drew _) (fun a' => wpList _ _ _ _ a' (World.drew _)) _ _
  simp only [List.take_succ_cons, List.take_zero, List.drop_succ_cons, List.drop_zero]
  repeat still_step
  refine wpStill_nil ?_
  go_wp2
  rw [rounds_succ]
  go_wp2
  refine wp_region_still_tail 12 (by kernel_rfl) (by kernel_rfl) ?_
  change wpStill _ _ (World.drew _) (fun a' => wpList _ _ _ _ a' (World.drew _)) _ _
  simp only [List.take_succ_cons, List.take_zero, List.drop_succ_cons, List.drop_zero]
  repeat still_step
  refine wpStill_nil ?_
  go_wp2
  refine wp_region_still_tail 14 (by kernel_rfl) (by kernel_rfl) ?_
  change wpStill _ _ (World.drew _) (fun a' => wpList _ _ _ _ a' (World.drew _)) _ _
  simp only [List.take_succ_cons, List.take_zero, List.drop_succ_cons, List.drop_zero]
  repeat still_step
  refine wpStill_nil ?_
  go_wp2
  rw [rounds_succ]
  go_wp2
  refine wp_region_still_tail 12 (by kernel_rfl) (by kernel_rfl) ?_
  change wpStill _ _ (World.drew _) (fun a' => wpList _ _ _ _ a' (World.drew _)) _ _
  simp only [List.take_succ_cons, List.take_zero, List.drop_succ_cons, List.drop_zero]
  repeat still_step
  refine wpStill_nil ?_
  go_wp2
  refine wp_region_still_tail 14 (by kernel_rfl) (by kernel_rfl) ?_
  change wpStill _ _ (World.drew _) (fun a' => wpList _ _ _ _ a' (World.drew _)) _ _
  simp only [List.take_succ_cons, List.take_zero, List.drop_succ_cons, List.drop_zero]
  repeat still_step
  refine wpStill_nil ?_
  go_wp2
  rw [rounds_succ]
  go_wp2
  refine wp_region_still_tail 12 (by kernel_rfl) (by kernel_rfl) ?_
  change wpStill _ _ (World.drew _) (fun a' => wpList _ _ _ _ a' (World.drew _)) _ _
  simp only [List.take_succ_cons, List.take_zero, List.drop_succ_cons, List.drop_zero]
  repeat still_step
  refine wpStill_nil ?_
  go_wp2
  refine wp_region_still_tail 14 (by kernel_rfl) (by kernel_rfl) ?_
  change wpStill _ _ (World.drew _) (fun a' => wpList _ _ _ _ a' (World.drew _)) _ _
  simp only [List.take_succ_cons, List.take_zero, List.drop_succ_cons, List.drop_zero]
  repeat still_step
  refine wpStill_nil ?_
  go_wp2
  rw [rounds_succ]
  go_wp2_with fail
  refine calls_at (fun W0 hW => ?_)
  have hZ : Blk W0 (w.heap.size + 1) 33 (av fun _ => 0) := by rw [hW]; exact blk_at (g' := (w.alloc (Obj.cells #[.int .u64 a0, .int .u64 a1, .int .u64 a2, .int .u64 a3, .int .u64 a4] 26)).heap.size) (by simp) ((Blk.new _ _ _).alloc _)
  have hb0 : Below w.heap.size w W0 := by rw [hW]; go_grown
  clear hW
  refine (hw.out _).mono ?_
  rintro e w2 ⟨rfl, hb2⟩
  replace hZ := hZ.below hb2
  replace hb0 := hb0.trans (hb2.mono hb0.size)
  go_wp2_with (refine stN rfl rfl rfl rfl hZ ?_; intro w3 hnew hgr hsz)
  exact retN rfl rfl hnew rfl ⟨rfl, hb0.grown hgr hb0.size (fun k h => by injection h; omega)⟩
end Go.Proofs.YtpaldgajkhmhbaaDoor
