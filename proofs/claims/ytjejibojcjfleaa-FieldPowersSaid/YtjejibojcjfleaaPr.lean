/- FieldRing answers true at every input, and its arguments read as they did; no condition. -/
import Derived.Test.YtjejibojcjfleaaRows
import Derived.Test.YtjejibojcjfleaaLr
import Derived.Test.YtjejibojcjfleaaRp
import Derived.Test.YtjejibojcjfleaaArr
import Derived.Test.YtjejibojcjfleaaBl
namespace Go.Proofs.Ytjejibojcjfleaa
open Go.ChangeShapes Go.WideShapes Go.ChangeAt Go.RowKit

theorem same_t {x y : Fe.E} (hx : Fe.R x) (hy : Fe.R y) (h : Fe.nv x = Fe.nv y) (w : World) : Calls Try.prog 21 #[.agg #[.int .u64 x.a0, .int .u64 x.a1, .int .u64 x.a2, .int .u64 x.a3, .int .u64 x.a4], .agg #[.int .u64 y.a0, .int .u64 y.a1, .int .u64 y.a2, .int .u64 y.a3, .int .u64 y.a4]] w (PostV (.bool true) w) := by
  have h1 := same_E x y hx.w hy.w w
  rw [Fe.same_dec hx hy, decide_eq_true h] at h1
  exact h1
theorem same_v {x y : Fe.E} (hx : Fe.R x) (hy : Fe.R y) {v : Bool} (h : decide (Fe.nv x = Fe.nv y) = v) (w : World) : Calls Try.prog 21 #[.agg #[.int .u64 x.a0, .int .u64 x.a1, .int .u64 x.a2, .int .u64 x.a3, .int .u64 x.a4], .agg #[.int .u64 y.a0, .int .u64 y.a1, .int .u64 y.a2, .int .u64 y.a3, .int .u64 y.a4]] w (PostV (.bool v) w) := by
  have h1 := same_E x y hx.w hy.w w
  rw [Fe.same_dec hx hy, h] at h1
  exact h1
theorem zero_v {x : Fe.E} (hx : Fe.R x) {v : Bool} (h : decide (Fe.nv x = 0) = v) (w : World) : Calls Try.prog 23 #[.agg #[.int .u64 x.a0, .int .u64 x.a1, .int .u64 x.a2, .int .u64 x.a3, .int .u64 x.a4]] w (PostV (.bool v) w) := by
  have h1 := zero_E x hx.w w
  rw [Fe.zero_dec hx, h] at h1
  exact h1

theorem same_one {x : Fe.E} (hx : Fe.R x) {v : Bool} (h : decide (Fe.nv x = Fe.nv ⟨1, 0, 0, 0, 0⟩) = v) (w : World) : Calls Try.prog 21 #[.agg #[.int .u64 x.a0, .int .u64 x.a1, .int .u64 x.a2, .int .u64 x.a3, .int .u64 x.a4], .agg #[.int .u64 1, .int .u64 0, .int .u64 0, .int .u64 0, .int .u64 0]] w (PostV (.bool v) w) := same_v hx Fe.R_one h w

set_option maxHeartbeats 4000000 in
theorem fieldRing_c (a b c : Fe.E) (hwa : Fe.W a) (hwb : Fe.W b) (hwc : Fe.W c) (w : World) : Calls Try.prog 6 #[.agg #[.int .u64 a.a0, .int .u64 a.a1, .int .u64 a.a2, .int .u64 a.a3, .int .u64 a.a4], .agg #[.int .u64 b.a0, .int .u64 b.a1, .int .u64 b.a2, .int .u64 b.a3, .int .u64 b.a4], .agg #[.int .u64 c.a0, .int .u64 c.a1, .int .u64 c.a2, .int .u64 c.a3, .int .u64 c.a4]] w (PostV (.bool true) w) := by
  by_cases hr : rightB 3 (xs3 a b c) = true
  · have h3 := (rightB_iff 3 (xs3 a b c)).1 hr
    have ha : Fe.R a := R_of hwa (h3 0 (by decide))
    have hb : Fe.R b := R_of hwb (h3 1 (by decide))
    have hc : Fe.R c := R_of hwc (h3 2 (by decide))
    have hs := (Fe.addE_r ha hb).1
    have hp := (Fe.mulE_r ha hb).1
    have hx := (Fe.mulE_r hc hs).1
    have hca := (Fe.mulE_r hc ha).1
    have hcb := (Fe.mulE_r hc hb).1
    have hy := (Fe.addE_r hca hcb).1
    have hn := (Fe.subE_r Fe.R_zero ha).1
    have hd := (Fe.subE_r ha hb).1
    have hi := Fe.pw_r ha 255 21 255
    have hinv := fun w => invert_E a hwa w
    have hni := Fe.n_inv ha
    generalize Fe.pw a 255 21 255 = i at hi hinv hni
    have h7 : ∀ k, Fe.R (xs7 (Fe.addE a b) (Fe.mulE a b) (Fe.mulE c (Fe.addE a b)) (Fe.addE (Fe.mulE c a) (Fe.mulE c b)) i Fe.m1 (Fe.subE a b) k) := by
      have hm := Fe.m1_r
      intro k
      unfold xs7
      split <;> assumption
    refine fieldRing_g a b c hwa hwb hwc hr
      (same_t hs (Fe.addE_r hb ha).1 (Fe.n_add_comm ha hb))
      (same_t hp (Fe.mulE_r hb ha).1 (Fe.n_mul_comm ha hb))
      (same_t (Fe.addE_r hs hc).1 (Fe.addE_r ha (Fe.addE_r hb hc).1).1 (Fe.n_add_assoc ha hb hc))
      (same_t (Fe.mulE_r hp hc).1 (Fe.mulE_r ha (Fe.mulE_r hb hc).1).1 (Fe.n_mul_assoc ha hb hc))
      (same_t hx hy (Fe.n_dist ha hb hc))
      (same_t (Fe.subE_r hs hb).1 ha (Fe.n_undo ha hb))
      (zero_v (Fe.addE_r ha hn).1 (decide_eq_true (Fe.n_neg ha)))
      (same_t (Fe.mulE_r ha ha).1 (Fe.mulE_r ha ha).1 rfl)
      (same_t (Fe.mulE_r ha Fe.R_one).1 ha (Fe.n_one ha))
      i hi.w (decide (Fe.nv a = 0)) (decide (Fe.nv b = 0)) hinv
      (same_one (Fe.mulE_r ha hi).1 hni)
      (zero_v ha rfl)
      (same_one (Fe.mulE_r Fe.m1_r Fe.m1_r).1 (decide_eq_true Fe.n_mm))
      (zero_v hp (Fe.n_zero ha hb))
      (zero_v hb rfl) (fun k => (h7 k).w) ((rightB_iff 7 _).2 fun k _ j _ => Fe.limb_r (h7 k) j) w
  · exact fieldRing_n a b c hwa hwb hwc (by simpa using hr) w

set_option maxRecDepth 100000 in
theorem fieldRing_lifted (os : Os) (started : os.Started) (H : Type) (enc : TypeId × Value → H) :
    ReturnsInHanded {} Try.checked os 6 .any (Rows.fieldRingSpec.pre6 enc Try.prog Try.f6 Rows.fieldRingRow.domain false) (Rows.fieldRingSpec.post enc Try.prog Try.f6 false true false false) := by
  refine returnsInHanded_of_change (C := Try.checked) (by kernel_rfl) started (by kernel_rfl) Try.func6
    (ChangeSpec.witness6 (enc := enc) (C := Try.checked) false ⟨#[], #[.agg #[.int .u64 0, .int .u64 0, .int .u64 0, .int .u64 0, .int .u64 0], .agg #[.int .u64 0, .int .u64 0, .int .u64 0, .int .u64 0, .int .u64 0], .agg #[.int .u64 0, .int .u64 0, .int .u64 0, .int .u64 0, .int .u64 0]], []⟩ 8 (by kernel_rfl) (by kernel_rfl) (by kernel_rfl) (by kernel_rfl)) ?_
  intro W base args ds gs before hval0 hW hcnd _
  have hval : ∀ (j : Nat) t v, Try.f6.params[j]? = some t → args[j]? = some v → Value.okWide Try.prog W .any base t v := hval0
  have hW' := hW
  obtain ⟨p, q, hA0, hV, rfl, hfz, hnd⟩ := hW
  have hA : DataW.TrodAll enc Try.prog W 0 (fun _ => true) true Try.f6.params.toList args.toList ds p := hA0
  rw [Try.params6] at hA hval
  obtain ⟨v0, v1, v2, d0, d1, d2, p0, p1, p2, rfl, rfl, rfl, h0, h1, h2⟩ := trodAll_three hA
  obtain ⟨rfl, rfl⟩ := trodVars_none hV
  have eu : Try.prog.cellsOf 22 = 1 := by kernel_rfl
  have ee : Try.prog.cellsOf 24 = 5 := by kernel_rfl
  have eb : Try.prog.underlying 4 = some .bool := by kernel_rfl
  have wf : ∀ {x : Int}, (Lit.int .u64 x).wf = true → 0 ≤ x ∧ x ≤ 18446744073709551615 := fun h => by
    simp only [Lit.wf, Bool.and_eq_true, decide_eq_true_eq] at h
    simp [IntKind.min, IntKind.max, IntKind.bits, IntKind.signed] at h
    omega
  obtain ⟨a0, a1, a2, a3, a4, rfl, rfl, rfl, va0, va1, va2, va3, va4⟩ := open_array5 elem_under u64_under eu ee (hval 0 24 v0 rfl rfl) h0
  obtain ⟨b0, b1, b2, b3, b4, rfl, rfl, rfl, vb0, vb1, vb2, vb3, vb4⟩ := open_array5 elem_under u64_under eu ee (hval 1 24 v1 rfl rfl) h1
  obtain ⟨c0, c1, c2, c3, c4, rfl, rfl, rfl, vc0, vc1, vc2, vc3, vc4⟩ := open_array5 elem_under u64_under eu ee (hval 2 24 v2 rfl rfl) h2
  clear hA0 hval0
  simp only [List.append_nil] at hW'
  refine (fieldRing_c ⟨a0, a1, a2, a3, a4⟩ ⟨b0, b1, b2, b3, b4⟩ ⟨c0, c1, c2, c3, c4⟩ ⟨wf va0, wf va1, wf va2, wf va3, wf va4⟩ ⟨wf vb0, wf vb1, wf vb2, wf vb3, wf vb4⟩ ⟨wf vc0, wf vc1, wf vc2, wf vc3, wf vc4⟩ W).mono fun e W' ⟨he, hb⟩ => ?_
  subst he
  exact ⟨_, rfl, post_of_below (pa := []) (pv := []) hW' (fun _ _ _ => trodAll_mk1 (shut_bool eb true)) (fun sp _ => trodAll_mk3 (shut_array5 elem_under u64_under eu ee va0 va1 va2 va3 va4) (shut_array5 elem_under u64_under eu ee vb0 vb1 vb2 vb3 vb4) (shut_array5 elem_under u64_under eu ee vc0 vc1 vc2 vc3 vc4)) (fun _ _ => rfl) rfl hb
    (ok_one (by kernel_rfl) rfl (okWide_bool_mk eb true))⟩

theorem fieldRing_holds : Rows.FieldRingSaid :=
  OpenClaim.holds_of_wide 6 Try.f6 rfl rfl rfl rfl rfl rfl rfl ⟨rfl, rfl, rfl, rfl, rfl⟩ rfl rfl rfl rfl rfl (by kernel_rfl) Try.func6 (by kernel_rfl)
    (of_decide_eq_true (by kernel_rfl)) (by unfold Func.isWrapper; rw [if_neg (by decide +kernel)]; exact ⟨rfl, rfl⟩)
    (fun os started H enc _ => fieldRing_lifted os started H enc)
end Go.Proofs.Ytjejibojcjfleaa
