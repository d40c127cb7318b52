/- FieldRoots answers true at every input, and its arguments read as they did; no condition. -/
import Derived.Test.YtjejibojcjfleaaRows
import Derived.Test.YtjejibojcjfleaaLo
import Derived.Test.YtjejibojcjfleaaRs
import Derived.Test.YtjejibojcjfleaaPr
namespace Go.Proofs.Ytjejibojcjfleaa
open Go.ChangeShapes Go.WideShapes Go.ChangeAt Go.RowKit

theorem odd_f {x : Fe.E} (hx : Fe.R x) {v : Bool} (h : decide (Fe.nv x % 2 = 1) = v) (w : World) : Calls Try.prog 24 #[.agg #[.int .u64 x.a0, .int .u64 x.a1, .int .u64 x.a2, .int .u64 x.a3, .int .u64 x.a4]] w (PostV (.bool v) w) := by
  have h1 := odd_E x hx.w ⟨(Fe.canon_d x).1.1, Int.le_trans (Int.le_of_lt (Fe.canon_d x).1.2) (by decide)⟩ w
  have e : decide ((Fe.canon x).a0 % 2 = 1) = v := by
    rw [← h]
    exact decide_eq_decide.2 (Fe.odd_iff hx)
  rw [e] at h1
  exact h1
theorem root_f {u v : Fe.E} (hu : Fe.R u) (hv : Fe.R v) : ∃ r, Fe.R r ∧ Fe.nv r = Fe.rN (Fe.nv u) (Fe.nv v) ∧ ∀ w, Calls Try.prog 10 #[.agg #[.int .u64 u.a0, .int .u64 u.a1, .int .u64 u.a2, .int .u64 u.a3, .int .u64 u.a4], .agg #[.int .u64 v.a0, .int .u64 v.a1, .int .u64 v.a2, .int .u64 v.a3, .int .u64 v.a4]] w (PostR r (Fe.bN (Fe.nv u) (Fe.nv v)) w) := by
  obtain ⟨h1, h2, h3⟩ := Fe.root_n hu hv
  refine ⟨rootE u v, h3, h2, fun w => ?_⟩
  rw [← h1]
  exact root_E u v hu.w hv.w w

set_option maxHeartbeats 4000000 in
theorem fieldRoots_c (a v : Fe.E) (hwa : Fe.W a) (hwv : Fe.W v) (w : World) : Calls Try.prog 7 #[.agg #[.int .u64 a.a0, .int .u64 a.a1, .int .u64 a.a2, .int .u64 a.a3, .int .u64 a.a4], .agg #[.int .u64 v.a0, .int .u64 v.a1, .int .u64 v.a2, .int .u64 v.a3, .int .u64 v.a4]] w (PostV (.bool true) w) := by
  by_cases hr : rightB 2 (xs2 a v) = true
  · have h2 := (rightB_iff 2 (xs2 a v)).1 hr
    have ha : Fe.R a := R_of hwa (h2 0 (by decide))
    have hv : Fe.R v := R_of hwv (h2 1 (by decide))
    have haa := (Fe.mulE_r ha ha).1
    have hu := (Fe.mulE_r haa hv).1
    have nu : Fe.nv (Fe.mulE (Fe.mulE a a) v) = Fe.nv a * Fe.nv a % Fe.P * Fe.nv v % Fe.P := by rw [Fe.nv_mul haa hv, Fe.nv_mul ha ha]
    have la := Fe.nv_lt a
    have lv := Fe.nv_lt v
    obtain ⟨r, rr, nr, croot⟩ := root_f hu hv
    have hok : Fe.bN (Fe.nv (Fe.mulE (Fe.mulE a a) v)) (Fe.nv v) = true := by rw [nu]; exact Fe.root_ok la lv
    have hsq := Fe.rN_sq (Fe.nv_lt _) hok
    rw [hok] at croot
    rw [← nr] at hsq
    have hev : Fe.nv r % 2 = 0 := by rw [nr]; exact Fe.rN_even
    have codd := odd_f rr (v := false) (decide_eq_false (by omega))
    have cr1 : rightB 1 (fun _ => r) = true := (rightB_iff 1 _).2 fun _ _ j _ => Fe.limb_r rr j
    have hrr := (Fe.mulE_r rr rr).1
    have cback := same_t (Fe.mulE_r hrr hv).1 hu (by rw [Fe.nv_mul hrr hv, Fe.nv_mul rr rr]; exact hsq)
    have czv := zero_v hv (v := decide (Fe.nv v = 0)) rfl
    have cza := zero_v ha (v := decide (Fe.nv a = 0)) rfl
    by_cases hz : (decide (Fe.nv v = 0) || decide (Fe.nv a = 0)) = true
    · exact fieldRoots_z a v r hwa hwv rr.w hr _ _ hz croot codd cr1 cback czv cza w
    · have hv0 : Fe.nv v ≠ 0 := fun h => hz (by simp [h])
      have ha0 : Fe.nv a ≠ 0 := fun h => hz (by simp [h])
      rw [decide_eq_false hv0] at czv
      rw [decide_eq_false ha0] at cza
      have hpm := Fe.root_pm (Fe.nv_lt r) la lv hv0 (hsq.trans nu)
      have hn := (Fe.subE_r Fe.R_zero ha).1
      have h2a := (Fe.addE_r ha ha).1
      obtain ⟨s, rs, ns, c1⟩ := root_f ha Fe.R_one
      obtain ⟨z, rz, nz, c2⟩ := root_f h2a Fe.R_one
      rw [Fe.nv_one] at c1 c2 ns
      rw [Fe.nv_add ha ha, Fe.one_two la ha0] at c2
      have hss := (Fe.mulE_r rs rs).1
      exact fieldRoots_g a v r s z hwa hwv rr.w rs.w hr (decide (Fe.nv r = Fe.nv a)) (Fe.bN (Fe.nv a) 1) croot codd cr1 cback czv cza c1 c2
        (same_v rr ha rfl)
        (fun h => same_t rr hn (by
          rw [Fe.nv_neg ha]
          rcases hpm with h1 | h1
          · rw [decide_eq_true h1] at h; cases h
          · exact h1))
        (fun h => same_t hss ha (by
          have := Fe.rN_sq la h
          rw [← ns] at this
          rw [Fe.nv_mul rs rs]
          rw [Nat.mul_one, Nat.mod_mod] at this
          exact this))
        (fun _ => odd_f rs (v := false) (decide_eq_false (by
          have : Fe.nv s % 2 = 0 := by rw [ns]; exact Fe.rN_even
          omega))) w
  · exact fieldRoots_n a v hwa hwv (by simpa using hr) w

set_option maxRecDepth 100000 in
theorem fieldRoots_lifted (os : Os) (started : os.Started) (H : Type) (enc : TypeId × Value → H) :
    ReturnsInHanded {} Try.checked os 7 .any (Rows.fieldRootsSpec.pre6 enc Try.prog Try.f7 Rows.fieldRootsRow.domain false) (Rows.fieldRootsSpec.post enc Try.prog Try.f7 false true false false) := by
  refine returnsInHanded_of_change (C := Try.checked) (by kernel_rfl) started (by kernel_rfl) Try.func7
    (ChangeSpec.witness6 (enc := enc) (C := Try.checked) false ⟨#[], #[.agg #[.int .u64 0, .int .u64 0, .int .u64 0, .int .u64 0, .int .u64 0], .agg #[.int .u64 0, .int .u64 0, .int .u64 0, .int .u64 0, .int .u64 0]], []⟩ 8 (by kernel_rfl) (by kernel_rfl) (by kernel_rfl) (by kernel_rfl)) ?_
  intro W base args ds gs before hval0 hW hcnd _
  have hval : ∀ (j : Nat) t v, Try.f7.params[j]? = some t → args[j]? = some v → Value.okWide Try.prog W .any base t v := hval0
  have hW' := hW
  obtain ⟨p, q, hA0, hV, rfl, hfz, hnd⟩ := hW
  have hA : DataW.TrodAll enc Try.prog W 0 (fun _ => true) true Try.f7.params.toList args.toList ds p := hA0
  rw [Try.params7] at hA hval
  obtain ⟨v0, v1, d0, d1, p0, p1, rfl, rfl, rfl, h0, h1⟩ := trodAll_two hA
  obtain ⟨rfl, rfl⟩ := trodVars_none hV
  have eu : Try.prog.cellsOf 22 = 1 := by kernel_rfl
  have ee : Try.prog.cellsOf 24 = 5 := by kernel_rfl
  have eb : Try.prog.underlying 4 = some .bool := by kernel_rfl
  have wf : ∀ {x : Int}, (Lit.int .u64 x).wf = true → 0 ≤ x ∧ x ≤ 18446744073709551615 := fun h => by
    simp only [Lit.wf, Bool.and_eq_true, decide_eq_true_eq] at h
    simp [IntKind.min, IntKind.max, IntKind.bits, IntKind.signed] at h
    omega
  obtain ⟨a0, a1, a2, a3, a4, rfl, rfl, rfl, va0, va1, va2, va3, va4⟩ := open_array5 elem_under u64_under eu ee (hval 0 24 v0 rfl rfl) h0
  obtain ⟨b0, b1, b2, b3, b4, rfl, rfl, rfl, vb0, vb1, vb2, vb3, vb4⟩ := open_array5 elem_under u64_under eu ee (hval 1 24 v1 rfl rfl) h1
  clear hA0 hval0
  simp only [List.append_nil] at hW'
  refine (fieldRoots_c ⟨a0, a1, a2, a3, a4⟩ ⟨b0, b1, b2, b3, b4⟩ ⟨wf va0, wf va1, wf va2, wf va3, wf va4⟩ ⟨wf vb0, wf vb1, wf vb2, wf vb3, wf vb4⟩ W).mono fun e W' ⟨he, hb⟩ => ?_
  subst he
  exact ⟨_, rfl, post_of_below (pa := []) (pv := []) hW' (fun _ _ _ => trodAll_mk1 (shut_bool eb true)) (fun sp _ => trodAll_mk2 (shut_array5 elem_under u64_under eu ee va0 va1 va2 va3 va4) (shut_array5 elem_under u64_under eu ee vb0 vb1 vb2 vb3 vb4)) (fun _ _ => rfl) rfl hb
    (ok_one (by kernel_rfl) rfl (okWide_bool_mk eb true))⟩

theorem fieldRoots_holds : Rows.FieldRootsSaid :=
  OpenClaim.holds_of_wide 7 Try.f7 rfl rfl rfl rfl rfl rfl rfl ⟨rfl, rfl, rfl, rfl, rfl⟩ rfl rfl rfl rfl rfl (by kernel_rfl) Try.func7 (by kernel_rfl)
    (of_decide_eq_true (by kernel_rfl)) (by unfold Func.isWrapper; rw [if_neg (by decide +kernel)]; exact ⟨rfl, rfl⟩)
    (fun os started H enc _ => fieldRoots_lifted os started H enc)
end Go.Proofs.Ytjejibojcjfleaa
