/- The walks of field.Sub, Neg, Square, canonical and what asks of elements. -/
import Derived.Test.YtigcobcpfmnhoaaDoorFm
namespace Go.Proofs.YtigcobcpfmnhoaaDoor
open Go.RowKit

set_option maxRecDepth 20000 in
set_option maxHeartbeats 400000 in
theorem sub_c (a0 a1 a2 a3 a4 b0 b1 b2 b3 b4 : Int) (w : World) :
    Calls Tryd.prog 56 #[.agg #[.int .u64 a0, .int .u64 a1, .int .u64 a2, .int .u64 a3, .int .u64 a4], .agg #[.int .u64 b0, .int .u64 b1, .int .u64 b2, .int .u64 b3, .int .u64 b4]] w (Post5 (Fe.subE ⟨a0, a1, a2, a3, a4⟩ ⟨b0, b1, b2, b3, b4⟩) w) := by
  go_enter Tryd.func56, Tryd.ntmps56
  go_wp2
  refine wp_loop_rounds 6 ?_
  rw [rounds_succ]
  go_wp2
  go_region
  go_wp2
  rw [rounds_succ]
  go_wp2
  go_region
  go_wp2
  rw [rounds_succ]
  go_wp2
  go_region
  go_wp2
  rw [rounds_succ]
  go_wp2
  go_region
  go_wp2
  rw [rounds_succ]
  go_wp2
  go_region
  go_wp2
  rw [rounds_succ]
  go_wp2_with fail
  refine (carried_c _ _ _ _ _ (by simp only [wr_eq]; exact Fe.wr_w _ _ _ _ _) _).mono ?_
  rintro e w1 ⟨r0, r1, r2, r3, r4, rfl, hr, hb⟩
  have hr' := Lib.hid hr
  clear hr
  obtain ⟨hc, hf⟩ := bcell hb
  go_wp2
  refine bodyPost_ret (v := .agg #[.int .u64 r0, .int .u64 r1, .int .u64 r2, .int .u64 r3, .int .u64 r4]) (by simp [results, Tryd.results56, go_sem, hc]) rfl ?_
  refine Post5.mk' ?_ ?_
  · rw [hr'.out]; simp only [wr_eq]; rfl
  clear hc hf hr'
  go_grown
  exact below_after (by go_grown) hb

set_option maxRecDepth 20000 in
set_option maxHeartbeats 400000 in
theorem neg_c (a0 a1 a2 a3 a4 : Int) (w : World) :
    Calls Tryd.prog 60 #[.agg #[.int .u64 a0, .int .u64 a1, .int .u64 a2, .int .u64 a3, .int .u64 a4]] w (Post5 (Fe.subE ⟨0, 0, 0, 0, 0⟩ ⟨a0, a1, a2, a3, a4⟩) w) := by
  go_enter Tryd.func60, Tryd.ntmps60
  go_wp2_with fail
  refine (sub_c _ _ _ _ _ _ _ _ _ _ _).mono ?_
  rintro e w1 ⟨r0, r1, r2, r3, r4, rfl, hr, hb⟩
  have hr' := Lib.hid hr
  clear hr
  obtain ⟨hc, hf⟩ := bcell hb
  go_wp2
  refine bodyPost_ret (v := .agg #[.int .u64 r0, .int .u64 r1, .int .u64 r2, .int .u64 r3, .int .u64 r4]) (by simp [results, Tryd.results60, go_sem, hc]) rfl ?_
  refine Post5.mk' hr'.out ?_
  clear hc hf hr'
  go_grown
  exact below_after (by go_grown) hb

set_option maxRecDepth 20000 in
set_option maxHeartbeats 400000 in
theorem square_c (a0 a1 a2 a3 a4 : Int) (hw : Fe.W ⟨a0, a1, a2, a3, a4⟩) (w : World) :
    Calls Tryd.prog 54 #[.agg #[.int .u64 a0, .int .u64 a1, .int .u64 a2, .int .u64 a3, .int .u64 a4]] w (Post5 (Fe.mulE ⟨a0, a1, a2, a3, a4⟩ ⟨a0, a1, a2, a3, a4⟩) w) := by
  go_enter Tryd.func54, Tryd.ntmps54
  go_wp2_with fail
  refine (mul_c _ _ _ _ _ _ _ _ _ _ hw hw _).mono ?_
  rintro e w1 ⟨r0, r1, r2, r3, r4, rfl, hr, hb⟩
  have hr' := Lib.hid hr
  clear hr hw
  obtain ⟨hc, hf⟩ := bcell hb
  go_wp2
  refine bodyPost_ret (v := .agg #[.int .u64 r0, .int .u64 r1, .int .u64 r2, .int .u64 r3, .int .u64 r4]) (by simp [results, Tryd.results54, go_sem, hc]) rfl ?_
  refine Post5.mk' hr'.out ?_
  clear hc hf hr'
  go_grown
  exact below_after (by go_grown) hb

/-- an element is answered; two blocks with it are new -/
def Post5x (x : Fe.E) (w : World) (e : Ending) (w' : World) : Prop :=
  ∃ r0 r1 r2 r3 r4 : Int, e = .returned (.agg #[.int .u64 r0, .int .u64 r1, .int .u64 r2, .int .u64 r3, .int .u64 r4]) ∧ Fe.E.mk r0 r1 r2 r3 r4 = x ∧
    w' = ((w.alloc (.cells #[.int .u64 r0, .int .u64 r1, .int .u64 r2, .int .u64 r3, .int .u64 r4] 28)).alloc (.cells #[.int .u64 r0, .int .u64 r1, .int .u64 r2, .int .u64 r3, .int .u64 r4] 28)).drew.drew.drew.drew

set_option maxRecDepth 20000 in
set_option maxHeartbeats 400000 in
theorem carried_x (a0 a1 a2 a3 a4 : Int) (hw : Fe.W ⟨a0, a1, a2, a3, a4⟩) (w : World) :
    Calls Tryd.prog 70 #[.agg #[.int .u64 a0, .int .u64 a1, .int .u64 a2, .int .u64 a3, .int .u64 a4]] w (Post5x (Fe.carr ⟨a0, a1, a2, a3, a4⟩) w) := by
  have he := Lib.hid (carried_eq hw)
  clear hw
  go_enter Tryd.func70, Tryd.ntmps70
  go_wp2
  refine wp_loop_rounds 5 ?_
  rw [rounds_succ]
  go_wp2
  go_region
  go_wp2
  rw [rounds_succ]
  go_wp2
  go_region
  go_wp2
  rw [rounds_succ]
  go_wp2
  go_region
  go_wp2
  rw [rounds_succ]
  go_wp2
  go_region
  go_wp2
  rw [rounds_succ]
  go_wp2
  go_returns
  exact ⟨_, _, _, _, _, rfl, he.out, rfl⟩

theorem and51w (x : Int) : bits .and .u64 (x % 18446744073709551616) 2251799813685247 = x % 18446744073709551616 % 2251799813685248 := and51 (by omega)
theorem canon_eq {y0 y1 y2 y3 y4 : Int} (h0 : 0 ≤ y0 ∧ y0 ≤ 2251799813841007) (h1 : 0 ≤ y1 ∧ y1 ≤ 2251799813841007) (h2 : 0 ≤ y2 ∧ y2 ≤ 2251799813841007) (h3 : 0 ≤ y3 ∧ y3 ≤ 2251799813841007) (h4 : 0 ≤ y4 ∧ y4 ≤ 2251799813841007) :
    Fe.E.mk (bits .and .u64 (IntKind.u64.wrap (y0 + IntKind.u64.wrap (19 * (IntKind.u64.wrap (y4 + IntKind.u64.wrap (y3 + IntKind.u64.wrap (y2 + IntKind.u64.wrap (y1 + IntKind.u64.wrap (y0 + 19) / 2251799813685248) / 2251799813685248) / 2251799813685248) / 2251799813685248) / 2251799813685248)))) 2251799813685247)
      (bits .and .u64 (IntKind.u64.wrap (y1 + IntKind.u64.wrap (y0 + IntKind.u64.wrap (19 * (IntKind.u64.wrap (y4 + IntKind.u64.wrap (y3 + IntKind.u64.wrap (y2 + IntKind.u64.wrap (y1 + IntKind.u64.wrap (y0 + 19) / 2251799813685248) / 2251799813685248) / 2251799813685248) / 2251799813685248) / 2251799813685248))) / 2251799813685248)) 2251799813685247)
      (bits .and .u64 (IntKind.u64.wrap (y2 + IntKind.u64.wrap (y1 + IntKind.u64.wrap (y0 + IntKind.u64.wrap (19 * (IntKind.u64.wrap (y4 + IntKind.u64.wrap (y3 + IntKind.u64.wrap (y2 + IntKind.u64.wrap (y1 + IntKind.u64.wrap (y0 + 19) / 2251799813685248) / 2251799813685248) / 2251799813685248) / 2251799813685248) / 2251799813685248))) / 2251799813685248) / 2251799813685248)) 2251799813685247)
      (bits .and .u64 (IntKind.u64.wrap (y3 + IntKind.u64.wrap (y2 + IntKind.u64.wrap (y1 + IntKind.u64.wrap (y0 + IntKind.u64.wrap (19 * (IntKind.u64.wrap (y4 + IntKind.u64.wrap (y3 + IntKind.u64.wrap (y2 + IntKind.u64.wrap (y1 + IntKind.u64.wrap (y0 + 19) / 2251799813685248) / 2251799813685248) / 2251799813685248) / 2251799813685248) / 2251799813685248))) / 2251799813685248) / 2251799813685248) / 2251799813685248)) 2251799813685247)
      (bits .and .u64 (IntKind.u64.wrap (y4 + IntKind.u64.wrap (y3 + IntKind.u64.wrap (y2 + IntKind.u64.wrap (y1 + IntKind.u64.wrap (y0 + IntKind.u64.wrap (19 * (IntKind.u64.wrap (y4 + IntKind.u64.wrap (y3 + IntKind.u64.wrap (y2 + IntKind.u64.wrap (y1 + IntKind.u64.wrap (y0 + 19) / 2251799813685248) / 2251799813685248) / 2251799813685248) / 2251799813685248) / 2251799813685248))) / 2251799813685248) / 2251799813685248) / 2251799813685248) / 2251799813685248)) 2251799813685247) = Fe.canonC ⟨y0, y1, y2, y3, y4⟩ := by
  simp only [IntKind.wrap_u64, and51w]
  have w : ∀ {x : Int}, 0 ≤ x ∧ x ≤ 18446744073709551615 → x % 18446744073709551616 = x := fun h => by omega
  rw [w (x := y0 + 19) (by omega)]
  rw [w (x := y1 + (y0 + 19) / 2251799813685248) (by omega)]
  rw [w (x := y2 + (y1 + (y0 + 19) / 2251799813685248) / 2251799813685248) (by omega)]
  rw [w (x := y3 + (y2 + (y1 + (y0 + 19) / 2251799813685248) / 2251799813685248) / 2251799813685248) (by omega)]
  rw [w (x := y4 + (y3 + (y2 + (y1 + (y0 + 19) / 2251799813685248) / 2251799813685248) / 2251799813685248) / 2251799813685248) (by omega)]
  simp only [Fe.canonC, Fe.last]
  have hq : (y4 + (y3 + (y2 + (y1 + (y0 + 19) / 2251799813685248) / 2251799813685248) / 2251799813685248) / 2251799813685248) / 2251799813685248 = Fe.qof ⟨y0, y1, y2, y3, y4⟩ := rfl
  rw [hq]
  have hqb : 0 ≤ Fe.qof ⟨y0, y1, y2, y3, y4⟩ ∧ Fe.qof ⟨y0, y1, y2, y3, y4⟩ ≤ 2 := by simp only [Fe.qof]; omega
  generalize Fe.qof ⟨y0, y1, y2, y3, y4⟩ = q at *
  simp only [Fe.E.mk.injEq]
  clear hq
  rw [w (x := 19 * q) (by omega)]
  rw [w (x := y0 + 19 * q) (by omega)]
  rw [w (x := y1 + (y0 + 19 * q) / 2251799813685248) (by omega)]
  rw [w (x := y2 + (y1 + (y0 + 19 * q) / 2251799813685248) / 2251799813685248) (by omega)]
  rw [w (x := y3 + (y2 + (y1 + (y0 + 19 * q) / 2251799813685248) / 2251799813685248) / 2251799813685248) (by omega)]
  rw [w (x := y4 + (y3 + (y2 + (y1 + (y0 + 19 * q) / 2251799813685248) / 2251799813685248) / 2251799813685248) / 2251799813685248) (by omega)]
  exact ⟨rfl, rfl, rfl, rfl, rfl⟩

theorem carr_b {x0 x1 x2 x3 x4 y0 y1 y2 y3 y4 : Int} (h : Fe.W ⟨x0, x1, x2, x3, x4⟩) (e : Fe.E.mk y0 y1 y2 y3 y4 = Fe.carr ⟨x0, x1, x2, x3, x4⟩) :
    (0 ≤ y0 ∧ y0 ≤ 2251799813841007) ∧ (0 ≤ y1 ∧ y1 ≤ 2251799813841007) ∧ (0 ≤ y2 ∧ y2 ≤ 2251799813841007) ∧ (0 ≤ y3 ∧ y3 ≤ 2251799813841007) ∧ (0 ≤ y4 ∧ y4 ≤ 2251799813841007) := by
  simp only [Fe.carr, Fe.E.mk.injEq, Fe.W] at *
  omega

set_option maxRecDepth 20000 in
set_option maxHeartbeats 1000000 in
theorem canonical_c (a0 a1 a2 a3 a4 : Int) (hw : Fe.W ⟨a0, a1, a2, a3, a4⟩) (w : World) :
    Calls Tryd.prog 66 #[.agg #[.int .u64 a0, .int .u64 a1, .int .u64 a2, .int .u64 a3, .int .u64 a4]] w (Post5 (Fe.canon ⟨a0, a1, a2, a3, a4⟩) w) := by
  go_enter Tryd.func66, Tryd.ntmps66
  go_wp2_with fail
  refine (carried_x _ _ _ _ _ hw _).mono ?_
  rintro e w1 ⟨x0, x1, x2, x3, x4, rfl, hx, rfl⟩
  have hw1 : Fe.W ⟨x0, x1, x2, x3, x4⟩ := by rw [hx]; exact Fe.carr_w hw
  have hx := Lib.hid hx
  clear hw
  go_wp2_with fail
  refine (carried_x _ _ _ _ _ hw1 _).mono ?_
  rintro e w2 ⟨y0, y1, y2, y3, y4, rfl, hy, rfl⟩
  have hcb := Lib.hid (carr_b hw1 hy)
  have hy := Lib.hid hy
  clear hw1
  go_wp2
  refine wp_loop_rounds 5 ?_
  rw [rounds_succ]
  go_wp2
  rw [rounds_succ]
  go_wp2
  rw [rounds_succ]
  go_wp2
  rw [rounds_succ]
  go_wp2
  rw [rounds_succ]
  go_wp2
  refine wp_loop_rounds 5 ?_
  rw [rounds_succ]
  go_wp2
  go_region
  go_wp2
  rw [rounds_succ]
  go_wp2
  go_region
  go_wp2
  rw [rounds_succ]
  go_wp2
  go_region
  go_wp2
  rw [rounds_succ]
  go_wp2
  go_region
  go_wp2
  rw [rounds_succ]
  go_wp2
  go_returns
  refine Post5.mk' ?_ ?_
  · obtain ⟨g0, g1, g2, g3, g4⟩ := hcb.out
    rw [canon_eq g0 g1 g2 g3 g4, hy.out, hx.out]
    rfl
  go_grown
end Go.Proofs.YtigcobcpfmnhoaaDoor
