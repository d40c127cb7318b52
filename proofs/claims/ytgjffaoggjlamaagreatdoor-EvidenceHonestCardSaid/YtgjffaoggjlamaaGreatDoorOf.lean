/- EvidenceHonest: no evidence of roots that are honest. -/
import Derived.Test.YtgjffaoggjlamaaGreatDoorOe
namespace Go.Proofs.YtgjffaoggjlamaaGreatDoor
open Go Go.RowKit
set_option maxRecDepth 20000 in
set_option maxHeartbeats 8000000 in
theorem honest_big (p0 : Option Addr) (n0 c0 : Nat) (p1 : Option Addr) (n1 c1 : Nat) (p2 : Option Addr) (n2 c2 : Nat) (h : (6 : Int) < n0 ∨ (¬ (6 : Int) < n0 ∧ (6 : Int) < n1) ∨ (¬ (6 : Int) < n0 ∧ ¬ (6 : Int) < n1 ∧ (6 : Int) < n2)) (w : World) (hS : ShP w) (hCv : CvP w) :
    Calls Tryz.prog 3 #[.slice p0 n0 c0, .slice p1 n1 c1, .slice p2 n2 c2] w (PostV (.bool true) w) := by
  have ha := Lib.hid (awake16_c w hS hCv)
  replace h := Lib.hid h
  clear hS hCv
  go_enter Tryz.func3, Tryz.ntmps3
  go_wp2_with fail
  refine ha.out.mono ?_
  rintro e w1 ⟨rfl, hb1⟩
  clear ha
  rcases h.out with h1 | ⟨h1, h2⟩ | ⟨h1, h2, h3⟩
  all_goals
    clear h
    go_wp2_with fail
    go_returns
    exact ⟨rfl, hb1⟩
theorem honest_any (p0 : Option Addr) (n0 c0 : Nat) (A0 : Nat → Int) (p1 : Option Addr) (n1 c1 : Nat) (A1 : Nat → Int) (p2 : Option Addr) (n2 c2 : Nat) (w : World) (hI0 : IAt w p0 n0 A0) (hI1 : IAt w p1 n1 A1) (hV2 : VAt w p2 n2) (hS : ShP w) (hCv : CvP w) :
    Calls Tryz.prog 3 #[.slice p0 n0 c0, .slice p1 n1 c1, .slice p2 n2 c2] w (PostV (.bool true) w) := by
  by_cases h0 : n0 ≤ 6
  · by_cases h1 : n1 ≤ 6
    · by_cases h2 : n2 ≤ 6
      · exact honest_small p0 n0 c0 A0 p1 n1 c1 A1 p2 n2 c2 h0 h1 h2 w hI0 hI1 hV2 hS hCv
      · exact honest_big p0 n0 c0 p1 n1 c1 p2 n2 c2 (.inr (.inr ⟨by omega, by omega, by omega⟩)) w hS hCv
    · exact honest_big p0 n0 c0 p1 n1 c1 p2 n2 c2 (.inr (.inl ⟨by omega, by omega⟩)) w hS hCv
  · exact honest_big p0 n0 c0 p1 n1 c1 p2 n2 c2 (.inl (by omega)) w hS hCv
end Go.Proofs.YtgjffaoggjlamaaGreatDoor
namespace Go.Proofs.YtgjffaoggjlamaaGreatDoor
open Go.ChangeShapes Go.WideShapes Go.ChangeAt Go.WideMaps Go.WideElems Go.RowKit
set_option maxRecDepth 100000 in
theorem evidenceHonest_lifted (os : Os) (started : os.Started) (H : Type) (enc : TypeId × Value → H) :
    ReturnsInHanded {} Tryz.checked os 3 .any (fun w args => (Rows.evidenceHonestSpec.pre enc Tryz.prog Tryz.f3 [] false w args ∧ laidMetH Tryz.prog laidS w) ∧ sizedMet enc Tryz.prog Tryz.f3 (OpenSpec.ofChange Rows.evidenceHonestSpec) false w args)
      (Rows.evidenceHonestSpec.post enc Tryz.prog Tryz.f3 false true false false) := by
  refine returnsInHanded_of_change_and (C := Tryz.checked) (X := fun w _ => laidMetH Tryz.prog laidS w) (fun _ _ _ hh h => h.of_heap hh) own_ started (by kernel_rfl) Tryz.func3
    (ChangeSpec.witness_shaped (enc := enc) (C := Tryz.checked) (os := os) (X := fun w _ => laidMetH Tryz.prog laidS w) false (World.doorLaid Tryz.prog 400 os) #[.slice none 0 0, .slice none 0 0, .slice none 0 0] 8 rfl (World.shaped_of_RefB (by kernel_rfl) (by kernel_rfl)) (by kernel_rfl) (by kernel_rfl) (by kernel_rfl) (door_met os _)) ?_
  intro W base args ds gs before hval0 hW _ _ hL _
  have hval : ∀ (j : Nat) t v, Tryz.f3.params[j]? = some t → args[j]? = some v → Value.okWide Tryz.prog W .any base t v := hval0
  have hW' := hW
  obtain ⟨p, q, hA0, hV, rfl, hfz, hnd⟩ := hW
  have hA : DataW.TrodAll enc Tryz.prog W 0 (fun _ => true) true Tryz.f3.params.toList args.toList ds p := hA0
  rw [Tryz.params3] at hA hval
  obtain ⟨v0, v1, v2, d0, d1, d2, q0, q1, q2, rfl, rfl, rfl, h0, h1, h2⟩ := trodAll_three hA
  obtain ⟨rfl, rfl⟩ := trodVars_none hV
  have hv0 := hval 0 22 v0 rfl rfl
  have hv1 := hval 1 22 v1 rfl rfl
  have hv2 := hval 2 23 v2 rfl rfl
  clear hA0 hval0
  simp only [List.append_nil] at hW'
  obtain ⟨hCv, hS⟩ := of_laid hL
  have hlt : ∀ x ∈ q0 ++ q1 ++ q2, x.block < W.heap.size := fun x hx => hW'.lt x hx
  obtain ⟨a0, n0, c0, A0, rfl, hI0⟩ := open_is hv0 h0
  obtain ⟨a1, n1, c1, A1, rfl, hI1⟩ := open_is hv1 h1
  obtain ⟨a2, n2, c2, rfl, hV2⟩ := open_vs hv2 h2
  clear hv0 hv1 hv2
  refine (honest_any a0 n0 c0 A0 a1 n1 c1 A1 a2 n2 c2 W hI0 hI1 hV2 hS hCv).mono fun e W' ⟨he, hb⟩ => ?_
  subst he
  exact ⟨_, rfl, post_of_below (pa := q0 ++ q1 ++ q2) (pv := []) hW' (fun _ _ _ => trodAll_mk1 (shut_bool bool_under true))
    (fun sp hsp => ⟨q0, (q1 ++ q2), WideElems.Trod_stays (by kernel_rfl) (by kernel_rfl) (of_decide_eq_true (by kernel_rfl)) h0 (fun x hx => hb.same (hlt x (by simp [hx]))) (fun x hx => hsp x (by simp [hx])), ⟨q1, q2, WideElems.Trod_stays (by kernel_rfl) (by kernel_rfl) (of_decide_eq_true (by kernel_rfl)) h1 (fun x hx => hb.same (hlt x (by simp [hx]))) (fun x hx => hsp x (by simp [hx])), ⟨q2, [], WideElems.Trod_stays (by kernel_rfl) (by kernel_rfl) (of_decide_eq_true (by kernel_rfl)) h2 (fun x hx => hb.same (hlt x (by simp [hx]))) (fun x hx => hsp x (by simp [hx])), rfl, by simp⟩, by simp⟩, by simp⟩)
    (fun _ _ => rfl) (by simp) hb
    (ok_one (by kernel_rfl) rfl (okWide_bool_mk bool_under true))⟩
theorem evidenceHonest_row : Rows.EvidenceHonestSaid :=
  OpenClaim.holds_of_wide 3 Tryz.f3 rfl rfl rfl rfl rfl rfl rfl ⟨rfl, rfl, rfl, rfl, rfl⟩ rfl rfl rfl rfl rfl (by kernel_rfl) Tryz.func3 (by kernel_rfl)
    (of_decide_eq_true (by kernel_rfl)) (by unfold Func.isWrapper; first | (rw [if_pos (by decide +kernel)]; kernel_rfl) | (rw [if_neg (by decide +kernel)]; exact ⟨rfl, rfl⟩))
    (fun os started H enc _ => evidenceHonest_lifted os started H enc)
theorem evidenceHonest_holds : Rows.EvidenceHonestCardSaid :=
  Claim7.holds_tied_plain_at .later [] [.data, .data, .data, .data] true (true, "72087f2b6518ba3ca8f5a6e732784f24e9910f740a98764daa57a58567a5505c") true
    evidenceHonest_row (fun _ h => by cases h) (by kernel_rfl) (fun _ h => by cases h) evidenceHonest_row_tie rfl ⟨rfl, rfl⟩ (by kernel_rfl) rfl
    (fun f fn hf hfn => by
      obtain rfl : f = 3 := Option.some.inj ((show Tryz.prog.funcNamed "buttress/buttresslaw16.EvidenceHonest" = some 3 by kernel_rfl).symm.trans hf) |>.symm
      obtain rfl : fn = Tryz.f3 := (Option.some.inj (Tryz.func3.symm.trans hfn)).symm
      exact ⟨by kernel_rfl, fun j t ht => by
        rw [Tryz.params3] at ht
        have hm : t ∈ [22, 22, 23] := by simpa using Array.mem_of_getElem? ht
        have hall : ([22, 22, 23].all fun u => !Tryz.prog.wantsStandIn u) = true := by kernel_rfl
        exact (show Tryz.prog.wantsStandIn t = false by simpa using List.all_eq_true.1 hall t hm)⟩)
    (by kernel_rfl)
end Go.Proofs.YtgjffaoggjlamaaGreatDoor
