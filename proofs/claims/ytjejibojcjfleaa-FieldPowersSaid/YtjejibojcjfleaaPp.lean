/- FieldPowers answers true at every input, and its arguments read as they did; no condition. -/
import Derived.Test.YtjejibojcjfleaaRows
import Derived.Test.YtjejibojcjfleaaN14
import Derived.Test.YtjejibojcjfleaaPr
namespace Go.Proofs.Ytjejibojcjfleaa
open Go.ChangeShapes Go.WideShapes Go.ChangeAt Go.RowKit

theorem right_anyp (e : Fe.E) (hW : Fe.W e) : ∃ r : Bool, (r = true ↔ Fe.R e) ∧ ∀ w, Calls Try.prog 8 #[.agg (ev e)] w (PostV (.bool r) w) := by
  by_cases h : Fe.R e
  · exact ⟨true, by simp [h], fun w => rRight_t e.a0 e.a1 e.a2 e.a3 e.a4 h w⟩
  · exact ⟨false, by simp [h], fun w => rRight_f e hW h w⟩

theorem root_p {u v : Fe.E} (hu : Fe.R u) (hv : Fe.R v) : ∃ r, Fe.R r ∧ Fe.nv r = Fe.rN (Fe.nv u) (Fe.nv v) ∧ (Fe.bN (Fe.nv u) (Fe.nv v) = false → r = ⟨0, 0, 0, 0, 0⟩) ∧ ∀ w, Calls Try.prog 10 #[.agg (ev u), .agg (ev v)] w (PostR r (Fe.bN (Fe.nv u) (Fe.nv v)) w) := by
  obtain ⟨h1, h2, h3⟩ := Fe.root_n hu hv
  refine ⟨rootE u v, h3, h2, fun h => ?_, fun w => ?_⟩
  · rw [← h1] at h
    unfold rootB at h
    simp only [Bool.or_eq_false_iff] at h
    unfold rootE
    rw [h.1, h.2]
    rfl
  · rw [← h1]
    exact root_E u v hu.w hv.w w
set_option maxHeartbeats 4000000 in
theorem fieldPowers_c (a b : Fe.E) (hwa : Fe.W a) (hwb : Fe.W b) (w : World) : Calls Try.prog 3 #[.agg #[.int .u64 a.a0, .int .u64 a.a1, .int .u64 a.a2, .int .u64 a.a3, .int .u64 a.a4], .agg #[.int .u64 b.a0, .int .u64 b.a1, .int .u64 b.a2, .int .u64 b.a3, .int .u64 b.a4]] w (PostV (.bool true) w) := by
  by_cases hR : Fe.R a ∧ Fe.R b
  · obtain ⟨ha, hb⟩ := hR
    have la := Fe.nv_lt a
    have lb := Fe.nv_lt b
    obtain ⟨r, rr, nr, zr, crt⟩ := root_p ha hb
    have nrt := fun w => rRoot_c _ _ la lb w
    have haa := (Fe.mulE_r ha ha).1
    have hu := (Fe.mulE_r haa hb).1
    have nu : Fe.nv (Fe.mulE (Fe.mulE a a) b) = Fe.nv a * Fe.nv a % Fe.P * Fe.nv b % Fe.P := by rw [Fe.nv_mul haa hb, Fe.nv_mul ha ha]
    have hok : Fe.bN (Fe.nv (Fe.mulE (Fe.mulE a a) b)) (Fe.nv b) = true := by rw [nu]; exact Fe.root_ok la lb
    obtain ⟨r2, rr2, nr2, -, crt2⟩ := root_p hu hb
    have nrt2 := fun w => rRoot_c _ _ (Fe.nv_lt (Fe.mulE (Fe.mulE a a) b)) lb w
    rw [hok] at crt2 nrt2
    have hi := Fe.pw_r ha 255 21 255
    have ni : Fe.nv (Fe.pw a 255 21 255) = Fe.nv a ^ (Fe.P - 2) % Fe.P := by
      rw [Fe.nv_pwx ha Fe.chk255 (by decide) (by decide)]
      rfl
    have cfa := fun w => rFrom_c a.a0 a.a1 a.a2 a.a3 a.a4 ha w
    have cfb := fun w => rFrom_c b.a0 b.a1 b.a2 b.a3 b.a4 hb w
    have cra := fun w => rRight_t a.a0 a.a1 a.a2 a.a3 a.a4 ha w
    have crb := fun w => rRight_t b.a0 b.a1 b.a2 b.a3 b.a4 hb w
    have cfu := fun w => rFrom_c (Fe.mulE (Fe.mulE a a) b).a0 (Fe.mulE (Fe.mulE a a) b).a1 (Fe.mulE (Fe.mulE a a) b).a2 (Fe.mulE (Fe.mulE a a) b).a3 (Fe.mulE (Fe.mulE a a) b).a4 hu w
    cases hbn : Fe.bN (Fe.nv a) (Fe.nv b)
    · have hz := zr hbn
      rw [hbn] at crt nrt
      have cne := fun w => run_neq_E r ⟨0, 0, 0, 0, 0⟩ w
      rw [show eqE r ⟨0, 0, 0, 0, 0⟩ = true from eqE_iff.2 hz] at cne
      exact powers_f a b r (Fe.mulE (Fe.mulE a a) b) (Fe.mulE a a) r2 (Fe.pw a 255 21 255) _ _ _ _ _ _ cra crb cfa cfb crt nrt cne
        (fun w => square_E a hwa w) (fun w => mul_E _ b haa.w hwb w) crt2 cfu nrt2 (fun w => invert_E a hwa w) (fun w => rInv_c _ la w) (fun w => is_c _ hi _ ni w) (fun w => is_c r2 rr2 _ nr2 w) w
    · rw [hbn] at crt nrt
      exact powers_t a b r (Fe.mulE (Fe.mulE a a) b) (Fe.mulE a a) r2 (Fe.pw a 255 21 255) _ _ _ _ _ _ cra crb cfa cfb crt nrt (fun w => is_c r rr _ nr w)
        (fun w => square_E a hwa w) (fun w => mul_E _ b haa.w hwb w) crt2 cfu nrt2 (fun w => invert_E a hwa w) (fun w => rInv_c _ la w) (fun w => is_c _ hi _ ni w) (fun w => is_c r2 rr2 _ nr2 w) w
  · obtain ⟨ra, ha, cra⟩ := right_anyp a hwa
    obtain ⟨rb, hb, crb⟩ := right_anyp b hwb
    have hr : (ra && rb) = false := by
      rw [← Bool.not_eq_true, Bool.and_eq_true]
      exact fun h => hR ⟨ha.1 h.1, hb.1 h.2⟩
    exact powers_n a b _ _ _ ra rb hr cra crb (fun w => invert_E a hwa w) (fun w => root_E a b hwa hwb w) w

set_option maxRecDepth 100000 in
theorem fieldPowers_lifted (os : Os) (started : os.Started) (H : Type) (enc : TypeId × Value → H) :
    ReturnsInHanded {} Try.checked os 3 .any (Rows.fieldPowersSpec.pre6 enc Try.prog Try.f3 Rows.fieldPowersRow.domain false) (Rows.fieldPowersSpec.post enc Try.prog Try.f3 false true false false) := by
  refine returnsInHanded_of_change (C := Try.checked) (by kernel_rfl) started (by kernel_rfl) Try.func3
    (ChangeSpec.witness6 (enc := enc) (C := Try.checked) false ⟨#[], #[.agg #[.int .u64 0, .int .u64 0, .int .u64 0, .int .u64 0, .int .u64 0], .agg #[.int .u64 0, .int .u64 0, .int .u64 0, .int .u64 0, .int .u64 0]], []⟩ 8 (by kernel_rfl) (by kernel_rfl) (by kernel_rfl) (by kernel_rfl)) ?_
  intro W base args ds gs before hval0 hW hcnd _
  have hval : ∀ (j : Nat) t v, Try.f3.params[j]? = some t → args[j]? = some v → Value.okWide Try.prog W .any base t v := hval0
  have hW' := hW
  obtain ⟨p, q, hA0, hV, rfl, hfz, hnd⟩ := hW
  have hA : DataW.TrodAll enc Try.prog W 0 (fun _ => true) true Try.f3.params.toList args.toList ds p := hA0
  rw [Try.params3] at hA hval
  obtain ⟨v0, v1, d0, d1, p0, p1, rfl, rfl, rfl, h0, h1⟩ := trodAll_two hA
  obtain ⟨rfl, rfl⟩ := trodVars_none hV
  have eu : Try.prog.cellsOf 22 = 1 := by kernel_rfl
  have ee : Try.prog.cellsOf 24 = 5 := by kernel_rfl
  have eb : Try.prog.underlying 4 = some .bool := by kernel_rfl
  have wf : ∀ {x : Int}, (Lit.int .u64 x).wf = true → 0 ≤ x ∧ x ≤ 18446744073709551615 := fun h => by
    simp only [Lit.wf, Bool.and_eq_true, decide_eq_true_eq] at h
    simp [IntKind.min, IntKind.max, IntKind.bits, IntKind.signed] at h
    omega
  obtain ⟨a0, a1, a2, a3, a4, rfl, rfl, rfl, va0, va1, va2, va3, va4⟩ := open_array5 elem_under u64_under eu ee (hval 0 24 v0 rfl rfl) h0
  obtain ⟨b0, b1, b2, b3, b4, rfl, rfl, rfl, vb0, vb1, vb2, vb3, vb4⟩ := open_array5 elem_under u64_under eu ee (hval 1 24 v1 rfl rfl) h1
  clear hA0 hval0
  simp only [List.append_nil] at hW'
  refine (fieldPowers_c ⟨a0, a1, a2, a3, a4⟩ ⟨b0, b1, b2, b3, b4⟩ ⟨wf va0, wf va1, wf va2, wf va3, wf va4⟩ ⟨wf vb0, wf vb1, wf vb2, wf vb3, wf vb4⟩ W).mono fun e W' ⟨he, hb⟩ => ?_
  subst he
  exact ⟨_, rfl, post_of_below (pa := []) (pv := []) hW' (fun _ _ _ => trodAll_mk1 (shut_bool eb true)) (fun sp _ => trodAll_mk2 (shut_array5 elem_under u64_under eu ee va0 va1 va2 va3 va4) (shut_array5 elem_under u64_under eu ee vb0 vb1 vb2 vb3 vb4)) (fun _ _ => rfl) rfl hb
    (ok_one (by kernel_rfl) rfl (okWide_bool_mk eb true))⟩

theorem fieldPowers_holds : Rows.FieldPowersSaid :=
  OpenClaim.holds_of_wide 3 Try.f3 rfl rfl rfl rfl rfl rfl rfl ⟨rfl, rfl, rfl, rfl, rfl⟩ rfl rfl rfl rfl rfl (by kernel_rfl) Try.func3 (by kernel_rfl)
    (of_decide_eq_true (by kernel_rfl)) (by unfold Func.isWrapper; rw [if_neg (by decide +kernel)]; exact ⟨rfl, rfl⟩)
    (fun os started H enc _ => fieldPowers_lifted os started H enc)
end Go.Proofs.Ytjejibojcjfleaa
