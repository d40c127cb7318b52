/- EvidenceBack: there and back. -/
import Derived.Test.YtgjffaoggjlamaaGreatDoorUw
namespace Go.Proofs.YtgjffaoggjlamaaGreatDoor
open Go Go.RowKit
set_option maxRecDepth 100000 in
set_option maxHeartbeats 8000000 in
theorem back_big (x0 x1 x2 x3 : Int) (p4 : Option Addr) (n4 c4 : Nat) (p5 : Option Addr) (n5 c5 : Nat) (h : (64 : Int) < n4 ∨ (¬ (64 : Int) < n4 ∧ (64 : Int) < n5)) (w : World) (hS : ShP w) (hCv : CvP w) :
    Calls Tryz.prog 8 #[.int .i64 x0, .int .i64 x1, .int .i64 x2, .int .i64 x3, .slice p4 n4 c4, .slice p5 n5 c5] w (PostV (.bool true) w) := by
  have ha := Lib.hid (awake16_c w hS hCv)
  replace h := Lib.hid h
  clear hS hCv
  go_enter Tryz.func8, Tryz.ntmps8
  go_wp2_with fail
  refine ha.out.mono ?_
  rintro e w1 ⟨rfl, hb1⟩
  clear ha
  rcases h.out with h1 | ⟨h1, h2⟩
  all_goals
    clear h
    go_wp2_with fail
    go_returns
    exact ⟨rfl, hb1⟩
theorem back_any (x0 x1 x2 x3 : Int) (p4 : Option Addr) (n4 c4 : Nat) (y4 : Nat → Int) (p5 : Option Addr) (n5 c5 : Nat) (y5 : Nat → Int) (hy4 : Sc.Byt y4) (hy5 : Sc.Byt y5) (w : World) (hB4 : BAt w p4 n4 y4) (hB5 : BAt w p5 n5 y5) (hS : ShP w) (hCv : CvP w) :
    Calls Tryz.prog 8 #[.int .i64 x0, .int .i64 x1, .int .i64 x2, .int .i64 x3, .slice p4 n4 c4, .slice p5 n5 c5] w (PostV (.bool true) w) := by
  by_cases h4 : n4 ≤ 64
  · by_cases h5 : n5 ≤ 64
    · exact back_small x0 x1 x2 x3 p4 n4 c4 y4 p5 n5 c5 y5 h4 h5 hy4 hy5 w hB4 hB5 hS hCv
    · exact back_big x0 x1 x2 x3 p4 n4 c4 p5 n5 c5 (.inr ⟨by omega, by omega⟩) w hS hCv
  · exact back_big x0 x1 x2 x3 p4 n4 c4 p5 n5 c5 (.inl (by omega)) w hS hCv
end Go.Proofs.YtgjffaoggjlamaaGreatDoor
namespace Go.Proofs.YtgjffaoggjlamaaGreatDoor
open Go Go.ChangeShapes Go.WideShapes Go.ChangeAt Go.WideMaps Go.WideElems Go.RowKit
section
variable {H : Type} {enc : TypeId × Value → H} {P : Program} {w : World} {base : Nat} {spare : Nat → Bool} {held : Bool}
theorem trodAll_six {t0 t1 t2 t3 t4 t5 : TypeId} {args : Array Value} {ds : List (DataW H)} {ps : List MemPlace} (h : DataW.TrodAll enc P w base spare held [t0, t1, t2, t3, t4, t5] args.toList ds ps) :
    ∃ v0 v1 v2 v3 v4 v5 d0 d1 d2 d3 d4 d5 p0 p1 p2 p3 p4 p5, args = #[v0, v1, v2, v3, v4, v5] ∧ ds = [d0, d1, d2, d3, d4, d5] ∧ ps = p0 ++ p1 ++ p2 ++ p3 ++ p4 ++ p5 ∧ DataW.Trod enc P w base spare held t0 v0 d0 p0 ∧ DataW.Trod enc P w base spare held t1 v1 d1 p1 ∧ DataW.Trod enc P w base spare held t2 v2 d2 p2 ∧ DataW.Trod enc P w base spare held t3 v3 d3 p3 ∧ DataW.Trod enc P w base spare held t4 v4 d4 p4 ∧ DataW.Trod enc P w base spare held t5 v5 d5 p5 := by
  obtain ⟨v0, a0, d0, b0, p0, q0, e0, rfl, rfl, k0, h0⟩ := trodAll_cons h
  obtain ⟨v1, a1, d1, b1, p1, q1, rfl, rfl, rfl, k1, h1⟩ := trodAll_cons h0
  obtain ⟨v2, a2, d2, b2, p2, q2, rfl, rfl, rfl, k2, h2⟩ := trodAll_cons h1
  obtain ⟨v3, a3, d3, b3, p3, q3, rfl, rfl, rfl, k3, h3⟩ := trodAll_cons h2
  obtain ⟨v4, a4, d4, b4, p4, q4, rfl, rfl, rfl, k4, h4⟩ := trodAll_cons h3
  obtain ⟨v5, a5, d5, b5, p5, q5, rfl, rfl, rfl, k5, h5⟩ := trodAll_cons h4
  obtain ⟨rfl, rfl, rfl⟩ := trodAll_nil h5
  exact ⟨v0, v1, v2, v3, v4, v5, d0, d1, d2, d3, d4, d5, p0, p1, p2, p3, p4, p5, by cases args; simp_all, rfl, by simp, k0, k1, k2, k3, k4, k5⟩
end
end Go.Proofs.YtgjffaoggjlamaaGreatDoor
namespace Go.Proofs.YtgjffaoggjlamaaGreatDoor
open Go.ChangeShapes Go.WideShapes Go.ChangeAt Go.WideMaps Go.WideElems Go.RowKit
set_option maxRecDepth 100000 in
theorem evidenceBack_lifted (os : Os) (started : os.Started) (H : Type) (enc : TypeId × Value → H) :
    ReturnsInHanded {} Tryz.checked os 8 .any (fun w args => (Rows.evidenceBackSpec.pre enc Tryz.prog Tryz.f8 [] false w args ∧ laidMetH Tryz.prog laidS w) ∧ sizedMet enc Tryz.prog Tryz.f8 (OpenSpec.ofChange Rows.evidenceBackSpec) false w args)
      (Rows.evidenceBackSpec.post enc Tryz.prog Tryz.f8 false true false false) := by
  refine returnsInHanded_of_change_and (C := Tryz.checked) (X := fun w _ => laidMetH Tryz.prog laidS w) (fun _ _ _ hh h => h.of_heap hh) own_ started (by kernel_rfl) Tryz.func8
    (ChangeSpec.witness_shaped (enc := enc) (C := Tryz.checked) (os := os) (X := fun w _ => laidMetH Tryz.prog laidS w) false (World.doorLaid Tryz.prog 400 os) #[.int .i64 0, .int .i64 0, .int .i64 0, .int .i64 0, .slice none 0 0, .slice none 0 0] 8 rfl (World.shaped_of_RefB (by kernel_rfl) (by kernel_rfl)) (by kernel_rfl) (by kernel_rfl) (by kernel_rfl) (door_met os _)) ?_
  intro W base args ds gs before hval0 hW _ _ hL _
  have hval : ∀ (j : Nat) t v, Tryz.f8.params[j]? = some t → args[j]? = some v → Value.okWide Tryz.prog W .any base t v := hval0
  have hW' := hW
  obtain ⟨p, q, hA0, hV, rfl, hfz, hnd⟩ := hW
  have hA : DataW.TrodAll enc Tryz.prog W 0 (fun _ => true) true Tryz.f8.params.toList args.toList ds p := hA0
  rw [Tryz.params8] at hA hval
  obtain ⟨v0, v1, v2, v3, v4, v5, d0, d1, d2, d3, d4, d5, q0, q1, q2, q3, q4, q5, rfl, rfl, rfl, h0, h1, h2, h3, h4, h5⟩ := trodAll_six hA
  obtain ⟨rfl, rfl⟩ := trodVars_none hV
  have hv0 := hval 0 3 v0 rfl rfl
  have hv1 := hval 1 3 v1 rfl rfl
  have hv2 := hval 2 3 v2 rfl rfl
  have hv3 := hval 3 3 v3 rfl rfl
  have hv4 := hval 4 26 v4 rfl rfl
  have hv5 := hval 5 26 v5 rfl rfl
  clear hA0 hval0
  simp only [List.append_nil] at hW'
  obtain ⟨hCv, hS⟩ := of_laid hL
  have hlt : ∀ x ∈ q0 ++ q1 ++ q2 ++ q3 ++ q4 ++ q5, x.block < W.heap.size := fun x hx => hW'.lt x hx
  obtain ⟨x0, rfl⟩ := okWide_int (show Tryz.prog.underlying 3 = some (.int .i64) by kernel_rfl) hv0
  obtain ⟨x1, rfl⟩ := okWide_int (show Tryz.prog.underlying 3 = some (.int .i64) by kernel_rfl) hv1
  obtain ⟨x2, rfl⟩ := okWide_int (show Tryz.prog.underlying 3 = some (.int .i64) by kernel_rfl) hv2
  obtain ⟨x3, rfl⟩ := okWide_int (show Tryz.prog.underlying 3 = some (.int .i64) by kernel_rfl) hv3
  obtain ⟨a4, n4, c4, b4, rfl, hr4, hB4, hc4⟩ := open_bs hv4 h4
  obtain ⟨a5, n5, c5, b5, rfl, hr5, hB5, hc5⟩ := open_bs hv5 h5
  clear hv0 hv1 hv2 hv3 hv4 hv5
  refine (back_any x0 x1 x2 x3 a4 n4 c4 b4 a5 n5 c5 b5 hr4 hr5 W hB4 hB5 hS hCv).mono fun e W' ⟨he, hb⟩ => ?_
  subst he
  exact ⟨_, rfl, post_of_below (pa := q0 ++ q1 ++ q2 ++ q3 ++ q4 ++ q5) (pv := []) hW' (fun _ _ _ => trodAll_mk1 (shut_bool bool_under true))
    (fun sp hsp => ⟨q0, (q1 ++ q2 ++ q3 ++ q4 ++ q5), WideElems.Trod_stays (by kernel_rfl) (by kernel_rfl) (of_decide_eq_true (by kernel_rfl)) h0 (fun x hx => hb.same (hlt x (by simp [hx]))) (fun x hx => hsp x (by simp [hx])), ⟨q1, (q2 ++ q3 ++ q4 ++ q5), WideElems.Trod_stays (by kernel_rfl) (by kernel_rfl) (of_decide_eq_true (by kernel_rfl)) h1 (fun x hx => hb.same (hlt x (by simp [hx]))) (fun x hx => hsp x (by simp [hx])), ⟨q2, (q3 ++ q4 ++ q5), WideElems.Trod_stays (by kernel_rfl) (by kernel_rfl) (of_decide_eq_true (by kernel_rfl)) h2 (fun x hx => hb.same (hlt x (by simp [hx]))) (fun x hx => hsp x (by simp [hx])), ⟨q3, (q4 ++ q5), WideElems.Trod_stays (by kernel_rfl) (by kernel_rfl) (of_decide_eq_true (by kernel_rfl)) h3 (fun x hx => hb.same (hlt x (by simp [hx]))) (fun x hx => hsp x (by simp [hx])), ⟨q4, q5, WideElems.Trod_stays (by kernel_rfl) (by kernel_rfl) (of_decide_eq_true (by kernel_rfl)) h4 (fun x hx => hb.same (hlt x (by simp [hx]))) (fun x hx => hsp x (by simp [hx])), ⟨q5, [], WideElems.Trod_stays (by kernel_rfl) (by kernel_rfl) (of_decide_eq_true (by kernel_rfl)) h5 (fun x hx => hb.same (hlt x (by simp [hx]))) (fun x hx => hsp x (by simp [hx])), rfl, by simp⟩, by simp⟩, by simp⟩, by simp⟩, by simp⟩, by simp⟩)
    (fun _ _ => rfl) (by simp) hb
    (ok_one (by kernel_rfl) rfl (okWide_bool_mk bool_under true))⟩
theorem evidenceBack_row : Rows.EvidenceBackSaid :=
  OpenClaim.holds_of_wide 8 Tryz.f8 rfl rfl rfl rfl rfl rfl rfl ⟨rfl, rfl, rfl, rfl, rfl⟩ rfl rfl rfl rfl rfl (by kernel_rfl) Tryz.func8 (by kernel_rfl)
    (of_decide_eq_true (by kernel_rfl)) (by unfold Func.isWrapper; first | (rw [if_pos (by decide +kernel)]; kernel_rfl) | (rw [if_neg (by decide +kernel)]; exact ⟨rfl, rfl⟩))
    (fun os started H enc _ => evidenceBack_lifted os started H enc)
theorem evidenceBack_holds : Rows.EvidenceBackCardSaid :=
  Claim7.holds_tied_plain_at .later [] [.data, .data, .data, .data] true (true, "72087f2b6518ba3ca8f5a6e732784f24e9910f740a98764daa57a58567a5505c") true
    evidenceBack_row (fun _ h => by cases h) (by kernel_rfl) (fun _ h => by cases h) evidenceBack_row_tie rfl ⟨rfl, rfl⟩ (by kernel_rfl) rfl
    (fun f fn hf hfn => by
      obtain rfl : f = 8 := Option.some.inj ((show Tryz.prog.funcNamed "buttress/buttresslaw16.EvidenceBack" = some 8 by kernel_rfl).symm.trans hf) |>.symm
      obtain rfl : fn = Tryz.f8 := (Option.some.inj (Tryz.func8.symm.trans hfn)).symm
      exact ⟨by kernel_rfl, fun j t ht => by
        rw [Tryz.params8] at ht
        have hm : t ∈ [3, 3, 3, 3, 26, 26] := by simpa using Array.mem_of_getElem? ht
        have hall : ([3, 3, 3, 3, 26, 26].all fun u => !Tryz.prog.wantsStandIn u) = true := by kernel_rfl
        exact (show Tryz.prog.wantsStandIn t = false by simpa using List.all_eq_true.1 hall t hm)⟩)
    (by kernel_rfl)
end Go.Proofs.YtgjffaoggjlamaaGreatDoor
