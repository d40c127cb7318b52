/- FieldReckons answers true at every input, and its arguments read as they did; no condition. -/
import Derived.Test.YtjejibojcjfleaaRows
import Derived.Test.YtjejibojcjfleaaN11
import Derived.Test.YtjejibojcjfleaaPr
namespace Go.Proofs.Ytjejibojcjfleaa
open Go.ChangeShapes Go.WideShapes Go.ChangeAt Go.RowKit

theorem odd_r {x : Fe.E} (hx : Fe.R x) {v : Bool} (h : decide (Fe.nv x % 2 = 1) = v) (w : World) : Calls Try.prog 24 #[.agg #[.int .u64 x.a0, .int .u64 x.a1, .int .u64 x.a2, .int .u64 x.a3, .int .u64 x.a4]] w (PostV (.bool v) w) := by
  have h1 := odd_E x hx.w ⟨(Fe.canon_d x).1.1, Int.le_trans (Int.le_of_lt (Fe.canon_d x).1.2) (by decide)⟩ w
  have e : decide ((Fe.canon x).a0 % 2 = 1) = v := by
    rw [← h]
    exact decide_eq_decide.2 (Fe.odd_iff hx)
  rw [e] at h1
  exact h1
theorem right_any (e : Fe.E) (hW : Fe.W e) : ∃ r : Bool, (r = true ↔ Fe.R e) ∧ ∀ w, Calls Try.prog 8 #[.agg (ev e)] w (PostV (.bool r) w) := by
  by_cases h : Fe.R e
  · exact ⟨true, by simp [h], fun w => rRight_t e.a0 e.a1 e.a2 e.a3 e.a4 h w⟩
  · exact ⟨false, by simp [h], fun w => rRight_f e hW h w⟩
theorem dg_zero : Dg.dg 0 = fun _ => 0 := by funext j; simp [Dg.dg]
set_option maxHeartbeats 4000000 in
theorem fieldReckons_c (a b : Fe.E) (hwa : Fe.W a) (hwb : Fe.W b) (w : World) : Calls Try.prog 5 #[.agg #[.int .u64 a.a0, .int .u64 a.a1, .int .u64 a.a2, .int .u64 a.a3, .int .u64 a.a4], .agg #[.int .u64 b.a0, .int .u64 b.a1, .int .u64 b.a2, .int .u64 b.a3, .int .u64 b.a4]] w (PostV (.bool true) w) := by
  by_cases hR : Fe.R a ∧ Fe.R b
  · obtain ⟨ha, hb⟩ := hR
    have la := Fe.nv_lt a
    have lb := Fe.nv_lt b
    have hs := (Fe.addE_r ha hb).1
    have hd := (Fe.subE_r ha hb).1
    have hm := (Fe.mulE_r ha hb).1
    have hn := (Fe.subE_r Fe.R_zero ha).1
    have hq := (Fe.mulE_r ha ha).1
    have nn := fun w => rSub_c 0 (Fe.nv a) (by unfold Fe.P; decide) la w
    rw [dg_zero] at nn
    have ez := eqN_dec la (show 0 < Fe.P by unfold Fe.P; decide)
    rw [dg_zero] at ez
    exact reckons_g a b (Fe.addE a b) (Fe.subE a b) (Fe.mulE a b) (Fe.subE ⟨0, 0, 0, 0, 0⟩ a) (Fe.mulE a a) (Dg.dg (Fe.nv a)) (Dg.dg (Fe.nv b)) _ _ _ _ _ _ _ _ _
      (fun w => rRight_t a.a0 a.a1 a.a2 a.a3 a.a4 ha w) (fun w => rRight_t b.a0 b.a1 b.a2 b.a3 b.a4 hb w)
      (fun w => rFrom_c a.a0 a.a1 a.a2 a.a3 a.a4 ha w) (fun w => rFrom_c b.a0 b.a1 b.a2 b.a3 b.a4 hb w)
      (fun w => add_E a b w) (fun w => sub_E a b w) (fun w => mul_E a b hwa hwb w) (fun w => neg_E a w) (fun w => square_E a hwa w)
      (fun w => rAdd_c _ _ la lb w) (fun w => rSub_c _ _ la lb w) (fun w => rMul_c _ _ la lb w) nn (fun w => rMul_c _ _ la la w) (fun w => rSmall_c 1 (by decide) w)
      (fun w => is_c _ hs _ (Fe.nv_add ha hb) w) (fun w => is_c _ hd _ (Fe.nv_sub ha hb) w) (fun w => is_c _ hm _ (Fe.nv_mul ha hb) w) (fun w => is_c _ hn _ (by rw [Fe.nv_neg ha, Nat.zero_add]) w) (fun w => is_c _ hq _ (Fe.nv_mul ha ha) w)
      (fun w => is_c ⟨1, 0, 0, 0, 0⟩ Fe.R_one 1 Fe.nv_one w)
      (same_v ha hb rfl) (zero_v ha rfl) (odd_r ha rfl) (fun w => rOdd_c (Fe.nv a) w) (eqN_dec la lb) ez w
  · obtain ⟨ra, ha, cra⟩ := right_any a hwa
    obtain ⟨rb, hb, crb⟩ := right_any b hwb
    have hr : (ra && rb) = false := by
      rw [← Bool.not_eq_true, Bool.and_eq_true]
      exact fun h => hR ⟨ha.1 h.1, hb.1 h.2⟩
    exact reckons_n a b (Fe.addE a b) (Fe.subE a b) (Fe.mulE (Fe.addE a b) (Fe.subE a b)) (Fe.subE ⟨0, 0, 0, 0, 0⟩ a) (Fe.mulE b b) _ _ ra rb hr cra crb
      (fun w => add_E a b w) (fun w => sub_E a b w) (fun w => mul_E _ _ (Fe.addE_w _ _) (Fe.subE_w _ _) w) (fun w => put_B _ (Fe.mulE_w _ _) w) (fun w => neg_E a w) (fun w => square_E b hwb w)
      (fun w => same_E _ _ (Fe.subE_w _ _) (Fe.mulE_w _ _) w) w

set_option maxRecDepth 100000 in
theorem fieldReckons_lifted (os : Os) (started : os.Started) (H : Type) (enc : TypeId × Value → H) :
    ReturnsInHanded {} Try.checked os 5 .any (Rows.fieldReckonsSpec.pre6 enc Try.prog Try.f5 Rows.fieldReckonsRow.domain false) (Rows.fieldReckonsSpec.post enc Try.prog Try.f5 false true false false) := by
  refine returnsInHanded_of_change (C := Try.checked) (by kernel_rfl) started (by kernel_rfl) Try.func5
    (ChangeSpec.witness6 (enc := enc) (C := Try.checked) false ⟨#[], #[.agg #[.int .u64 0, .int .u64 0, .int .u64 0, .int .u64 0, .int .u64 0], .agg #[.int .u64 0, .int .u64 0, .int .u64 0, .int .u64 0, .int .u64 0]], []⟩ 8 (by kernel_rfl) (by kernel_rfl) (by kernel_rfl) (by kernel_rfl)) ?_
  intro W base args ds gs before hval0 hW hcnd _
  have hval : ∀ (j : Nat) t v, Try.f5.params[j]? = some t → args[j]? = some v → Value.okWide Try.prog W .any base t v := hval0
  have hW' := hW
  obtain ⟨p, q, hA0, hV, rfl, hfz, hnd⟩ := hW
  have hA : DataW.TrodAll enc Try.prog W 0 (fun _ => true) true Try.f5.params.toList args.toList ds p := hA0
  rw [Try.params5] at hA hval
  obtain ⟨v0, v1, d0, d1, p0, p1, rfl, rfl, rfl, h0, h1⟩ := trodAll_two hA
  obtain ⟨rfl, rfl⟩ := trodVars_none hV
  have eu : Try.prog.cellsOf 22 = 1 := by kernel_rfl
  have ee : Try.prog.cellsOf 24 = 5 := by kernel_rfl
  have eb : Try.prog.underlying 4 = some .bool := by kernel_rfl
  have wf : ∀ {x : Int}, (Lit.int .u64 x).wf = true → 0 ≤ x ∧ x ≤ 18446744073709551615 := fun h => by
    simp only [Lit.wf, Bool.and_eq_true, decide_eq_true_eq] at h
    simp [IntKind.min, IntKind.max, IntKind.bits, IntKind.signed] at h
    omega
  obtain ⟨a0, a1, a2, a3, a4, rfl, rfl, rfl, va0, va1, va2, va3, va4⟩ := open_array5 elem_under u64_under eu ee (hval 0 24 v0 rfl rfl) h0
  obtain ⟨b0, b1, b2, b3, b4, rfl, rfl, rfl, vb0, vb1, vb2, vb3, vb4⟩ := open_array5 elem_under u64_under eu ee (hval 1 24 v1 rfl rfl) h1
  clear hA0 hval0
  simp only [List.append_nil] at hW'
  refine (fieldReckons_c ⟨a0, a1, a2, a3, a4⟩ ⟨b0, b1, b2, b3, b4⟩ ⟨wf va0, wf va1, wf va2, wf va3, wf va4⟩ ⟨wf vb0, wf vb1, wf vb2, wf vb3, wf vb4⟩ W).mono fun e W' ⟨he, hb⟩ => ?_
  subst he
  exact ⟨_, rfl, post_of_below (pa := []) (pv := []) hW' (fun _ _ _ => trodAll_mk1 (shut_bool eb true)) (fun sp _ => trodAll_mk2 (shut_array5 elem_under u64_under eu ee va0 va1 va2 va3 va4) (shut_array5 elem_under u64_under eu ee vb0 vb1 vb2 vb3 vb4)) (fun _ _ => rfl) rfl hb
    (ok_one (by kernel_rfl) rfl (okWide_bool_mk eb true))⟩

theorem fieldReckons_holds : Rows.FieldReckonsSaid :=
  OpenClaim.holds_of_wide 5 Try.f5 rfl rfl rfl rfl rfl rfl rfl ⟨rfl, rfl, rfl, rfl, rfl⟩ rfl rfl rfl rfl rfl (by kernel_rfl) Try.func5 (by kernel_rfl)
    (of_decide_eq_true (by kernel_rfl)) (by unfold Func.isWrapper; rw [if_neg (by decide +kernel)]; exact ⟨rfl, rfl⟩)
    (fun os started H enc _ => fieldReckons_lifted os started H enc)
end Go.Proofs.Ytjejibojcjfleaa
