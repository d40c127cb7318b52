/- The walks of field.Invert, Zero, Odd. -/
import Derived.Test.YtigcobcpfmnhoaaDoorFp
namespace Go.Proofs.YtigcobcpfmnhoaaDoor
open Go.RowKit

set_option maxRecDepth 20000 in
set_option maxHeartbeats 400000 in
theorem invert_E (a : Fe.E) (hw : Fe.W a) (w : World) :
    Calls Tryd.prog 49 #[.agg #[.int .u64 a.a0, .int .u64 a.a1, .int .u64 a.a2, .int .u64 a.a3, .int .u64 a.a4]] w (PostE (Fe.pw a 255 21 255) w) := by
  have hp := power_E a hw 255 21 (by decide) (by decide) (by decide)
  generalize hx : Fe.pw a 255 21 255 = x at hp ⊢
  clear hx
  go_enter Tryd.func49, Tryd.ntmps49
  go_wp2_with fail
  refine (hp _).mono ?_
  rintro e w1 ⟨rfl, hb⟩
  obtain ⟨hc, hf⟩ := bcell hb
  go_wp2
  refine bodyPost_ret (v := .agg #[.int .u64 x.a0, .int .u64 x.a1, .int .u64 x.a2, .int .u64 x.a3, .int .u64 x.a4]) (by simp [results, Tryd.results49, go_sem, hc]) rfl ?_
  refine ⟨rfl, ?_⟩
  clear hc hf
  go_grown
  exact (((Below.refl _ _).alloc (Nat.le_refl _) _).alloc (by simp) _).trans (hb.mono (by simp; omega))

set_option maxRecDepth 20000 in
set_option maxHeartbeats 400000 in
theorem zero_E (a : Fe.E) (hw : Fe.W a) (w : World) :
    Calls Tryd.prog 59 #[.agg #[.int .u64 a.a0, .int .u64 a.a1, .int .u64 a.a2, .int .u64 a.a3, .int .u64 a.a4]] w (PostV (.bool (eqE (Fe.canon a) ⟨0, 0, 0, 0, 0⟩)) w) := by
  have he := fun w => run_eql_E (Fe.canon a) ⟨0, 0, 0, 0, 0⟩ w
  have hp := canonical_E a hw
  generalize Fe.canon a = x at hp he ⊢
  go_enter Tryd.func59, Tryd.ntmps59
  go_wp2_with fail
  refine (hp _).mono ?_
  rintro e w1 ⟨rfl, hb⟩
  go_wp2
  go_returns
  exact ⟨rfl, ((Below.refl _ _).alloc (Nat.le_refl _) _).trans (hb.mono (by simp))⟩

theorem index0_E (x : Fe.E) (w : World) : (Instr.index 28 (.agg #[.int .u64 x.a0, .int .u64 x.a1, .int .u64 x.a2, .int .u64 x.a3, .int .u64 x.a4]) (.int .i64 0)).run Tryd.prog w = .ok (.int .u64 x.a0) w := by
  have hs : ∀ w, (sizeOf 26).run Tryd.prog w = .ok 1 w := by
    intro w
    have := u64_size
    cases hq : Tryd.prog.info? 26 with
    | none => simp [hq] at this
    | some i => simp [hq] at this; simp [sizeOf, typeInfo, hq, this]
  have hag : ∀ w, (isAgg 26).run Tryd.prog w = .ok false w := by
    intro w
    simp [isAgg, run_underlying u64_under]
  simp [Instr.index, asIntOf, run_underlying elem_under, hs, part, hag]

set_option maxRecDepth 20000 in
set_option maxHeartbeats 400000 in
theorem odd_E (a : Fe.E) (hw : Fe.W a) (hd : 0 ≤ (Fe.canon a).a0 ∧ (Fe.canon a).a0 ≤ 18446744073709551615) (w : World) :
    Calls Tryd.prog 51 #[.agg #[.int .u64 a.a0, .int .u64 a.a1, .int .u64 a.a2, .int .u64 a.a3, .int .u64 a.a4]] w (PostV (.bool (decide ((Fe.canon a).a0 % 2 = 1))) w) := by
  have hp := canonical_E a hw
  generalize Fe.canon a = x at hp hd ⊢
  have hi := index0_E x
  go_enter Tryd.func51, Tryd.ntmps51
  go_wp2_with fail
  refine (hp _).mono ?_
  rintro e w1 ⟨rfl, hb⟩
  go_wp2
  go_returns
  refine ⟨?_, ((Below.refl _ _).alloc (Nat.le_refl _) _).trans (hb.mono (by simp))⟩
  obtain ⟨h0, h1⟩ := hd
  show Ending.returned (.bool (bits .and .u64 x.a0 1 == 1)) = _
  rw [show bits .and .u64 x.a0 1 = x.a0 % 2 from bits_mask .u64 64 (by decide) (fun n h h' => by rw [IntKind.wrap_u64]; omega) 1 (by decide) x.a0 h0 (by omega)]
  rfl
end Go.Proofs.YtigcobcpfmnhoaaDoor
