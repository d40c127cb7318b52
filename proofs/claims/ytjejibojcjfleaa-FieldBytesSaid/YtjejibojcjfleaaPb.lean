/- FieldBytes answers true at every input, and its arguments read as they did; no condition. -/
import Derived.Test.YtjejibojcjfleaaRows
import Derived.Test.YtjejibojcjfleaaLb
import Derived.Test.YtjejibojcjfleaaArr
import Derived.Test.YtjejibojcjfleaaBl
namespace Go.Proofs.Ytjejibojcjfleaa
open Go.ChangeShapes Go.WideShapes Go.ChangeAt Go.RowKit

theorem own_ : ownKnob Try.prog.godebug = none := by kernel_rfl
theorem elem_cells : Try.prog.cellsOf 24 = 5 := by kernel_rfl
theorem u64_cells : Try.prog.cellsOf 22 = 1 := by kernel_rfl
theorem bool_under : Try.prog.underlying 4 = some .bool := by kernel_rfl
theorem wf_w {x : Int} (h : (Lit.int .u64 x).wf = true) : 0 ≤ x ∧ x ≤ 18446744073709551615 := by
  simp only [Lit.wf, Bool.and_eq_true, decide_eq_true_eq] at h
  simp [IntKind.min, IntKind.max, IntKind.bits, IntKind.signed] at h
  omega

set_option maxRecDepth 100000 in
theorem fieldBytes_lifted (os : Os) (started : os.Started) (H : Type) (enc : TypeId × Value → H) :
    ReturnsInHanded {} Try.checked os 4 .any (Rows.fieldBytesSpec.pre6 enc Try.prog Try.f4 Rows.fieldBytesRow.domain false) (Rows.fieldBytesSpec.post enc Try.prog Try.f4 false true false false) := by
  refine returnsInHanded_of_change (C := Try.checked) own_ started (by kernel_rfl) Try.func4
    (ChangeSpec.witness6 (enc := enc) (C := Try.checked) false ⟨#[], #[.agg #[.int .u64 0, .int .u64 0, .int .u64 0, .int .u64 0, .int .u64 0], .agg #[.int .u64 0, .int .u64 0, .int .u64 0, .int .u64 0, .int .u64 0]], []⟩ 8 (by kernel_rfl) (by kernel_rfl) (by kernel_rfl) (by kernel_rfl)) ?_
  intro W base args ds gs before hval0 hW hcnd _
  have hval : ∀ (j : Nat) t v, Try.f4.params[j]? = some t → args[j]? = some v → Value.okWide Try.prog W .any base t v := hval0
  have hW' := hW
  obtain ⟨p, q, hA0, hV, rfl, hfz, hnd⟩ := hW
  have hA : DataW.TrodAll enc Try.prog W 0 (fun _ => true) true Try.f4.params.toList args.toList ds p := hA0
  rw [Try.params4] at hA hval
  obtain ⟨v0, v1, d0, d1, p0, p1, rfl, rfl, rfl, h0, h1⟩ := trodAll_two hA
  obtain ⟨rfl, rfl⟩ := trodVars_none hV
  obtain ⟨a0, a1, a2, a3, a4, rfl, rfl, rfl, va0, va1, va2, va3, va4⟩ := open_array5 elem_under u64_under u64_cells elem_cells (hval 0 24 v0 rfl rfl) h0
  obtain ⟨b0, b1, b2, b3, b4, rfl, rfl, rfl, vb0, vb1, vb2, vb3, vb4⟩ := open_array5 elem_under u64_under u64_cells elem_cells (hval 1 24 v1 rfl rfl) h1
  clear hA0 hval0
  simp only [List.append_nil] at hW'
  refine (fieldBytes_c ⟨a0, a1, a2, a3, a4⟩ ⟨b0, b1, b2, b3, b4⟩ ⟨wf_w va0, wf_w va1, wf_w va2, wf_w va3, wf_w va4⟩ ⟨wf_w vb0, wf_w vb1, wf_w vb2, wf_w vb3, wf_w vb4⟩ W).mono fun e W' ⟨he, hb⟩ => ?_
  subst he
  exact ⟨_, rfl, post_of_below (pa := []) (pv := []) hW' (fun _ _ _ => trodAll_mk1 (shut_bool bool_under true)) (fun sp _ => trodAll_mk2 (shut_array5 elem_under u64_under u64_cells elem_cells va0 va1 va2 va3 va4) (shut_array5 elem_under u64_under u64_cells elem_cells vb0 vb1 vb2 vb3 vb4)) (fun _ _ => rfl) rfl hb
    (ok_one (by kernel_rfl) rfl (okWide_bool_mk bool_under true))⟩

theorem fieldBytes_holds : Rows.FieldBytesSaid :=
  OpenClaim.holds_of_wide 4 Try.f4 rfl rfl rfl rfl rfl rfl rfl ⟨rfl, rfl, rfl, rfl, rfl⟩ rfl rfl rfl rfl rfl (by kernel_rfl) Try.func4 (by kernel_rfl)
    (of_decide_eq_true (by kernel_rfl)) (by unfold Func.isWrapper; rw [if_neg (by decide +kernel)]; exact ⟨rfl, rfl⟩)
    (fun os started H enc _ => fieldBytes_lifted os started H enc)

end Go.Proofs.Ytjejibojcjfleaa
