/- RootTexts: two roots of right shape have one text just if they are the same, but for Sig; it begins with the byte 2. -/
import Derived.Test.YtgjffaoggjlamaaGreatDoorNe
namespace Go.Proofs.YtgjffaoggjlamaaGreatDoor
open Go Go.RowKit
theorem texts_any (r s q : Int) (p1 : Option Addr) (n1 c1 : Nat) (p2 : Option Addr) (n2 c2 : Nat) (r' s' q' : Int) (p3 : Option Addr) (n3 c3 : Nat) (p4 : Option Addr) (n4 c4 : Nat) (S1 S2 : Nat → Int) (hc1 : n1 ≤ c1) (hc3 : n3 ≤ c3) (w : World) (hX1 : BX [] w p1 n1 S1) (hX2 : BX [] w p3 n3 S2) (hS : ShP w) (hCv : CvP w) :
    Calls Tryz.prog 5 #[.agg #[.int .i64 r, .int .i64 s, .int .i64 q, .slice p1 n1 c1, .slice p2 n2 c2], .agg #[.int .i64 r', .int .i64 s', .int .i64 q', .slice p3 n3 c3, .slice p4 n4 c4]] w (PostV (.bool true) w) := by
  cases h1 : (decide (1000 < n1) || decide (1000 < n2)) with
  | true => exact texts_big r s q p1 n1 c1 p2 n2 c2 r' s' q' p3 n3 c3 p4 n4 c4 (.inl h1) w hS hCv
  | false =>
    cases h2 : (decide (1000 < n3) || decide (1000 < n4)) with
    | true => exact texts_big r s q p1 n1 c1 p2 n2 c2 r' s' q' p3 n3 c3 p4 n4 c4 (.inr ⟨h1, h2⟩) w hS hCv
    | false => exact texts_small r s q p1 n1 c1 p2 n2 c2 r' s' q' p3 n3 c3 p4 n4 c4 S1 S2 h1 h2 hc1 hc3 w hX1 hX2 hS hCv
end Go.Proofs.YtgjffaoggjlamaaGreatDoor
namespace Go.Proofs.YtgjffaoggjlamaaGreatDoor
open Go.ChangeShapes Go.WideShapes Go.ChangeAt Go.WideMaps Go.WideElems Go.RowKit
set_option maxRecDepth 100000 in
theorem rootTexts_lifted (os : Os) (started : os.Started) (H : Type) (enc : TypeId × Value → H) :
    ReturnsInHanded {} Tryz.checked os 5 .any (fun w args => (Rows.rootTextsSpec.pre enc Tryz.prog Tryz.f5 [] false w args ∧ laidMetH Tryz.prog laidS w) ∧ sizedMet enc Tryz.prog Tryz.f5 (OpenSpec.ofChange Rows.rootTextsSpec) false w args)
      (Rows.rootTextsSpec.post enc Tryz.prog Tryz.f5 false true false false) := by
  refine returnsInHanded_of_change_and (C := Tryz.checked) (X := fun w _ => laidMetH Tryz.prog laidS w) (fun _ _ _ hh h => h.of_heap hh) own_ started (by kernel_rfl) Tryz.func5
    (ChangeSpec.witness_shaped (enc := enc) (C := Tryz.checked) (os := os) (X := fun w _ => laidMetH Tryz.prog laidS w) false (World.doorLaid Tryz.prog 400 os) #[.agg #[.int .i64 0, .int .i64 0, .int .i64 0, .slice none 0 0, .slice none 0 0], .agg #[.int .i64 0, .int .i64 0, .int .i64 0, .slice none 0 0, .slice none 0 0]] 8 rfl (World.shaped_of_RefB (by kernel_rfl) (by kernel_rfl)) (by kernel_rfl) (by kernel_rfl) (by kernel_rfl) (door_met os _)) ?_
  intro W base args ds gs before hval0 hW _ _ hL _
  have hval : ∀ (j : Nat) t v, Tryz.f5.params[j]? = some t → args[j]? = some v → Value.okWide Tryz.prog W .any base t v := hval0
  have hW' := hW
  obtain ⟨p, q, hA0, hV, rfl, hfz, hnd⟩ := hW
  have hA : DataW.TrodAll enc Tryz.prog W 0 (fun _ => true) true Tryz.f5.params.toList args.toList ds p := hA0
  rw [Tryz.params5] at hA hval
  obtain ⟨v0, v1, d0, d1, q0, q1, rfl, rfl, rfl, h0, h1⟩ := trodAll_two hA
  obtain ⟨rfl, rfl⟩ := trodVars_none hV
  have hv0 := hval 0 28 v0 rfl rfl
  have hv1 := hval 1 28 v1 rfl rfl
  clear hA0 hval0
  simp only [List.append_nil] at hW'
  obtain ⟨hCv, hS⟩ := of_laid hL
  have hlt : ∀ x ∈ q0 ++ q1, x.block < W.heap.size := fun x hx => hW'.lt x hx
  obtain ⟨r0, s0, k0, pa0, na0, ca0, pb0, nb0, cb0, S0, G0, rfl, hS0, hA0, hca0, hG0, hB0, hcb0⟩ := open_root hv0 h0
  obtain ⟨r1, s1, k1, pa1, na1, ca1, pb1, nb1, cb1, S1, G1, rfl, hS1, hA1, hca1, hG1, hB1, hcb1⟩ := open_root hv1 h1
  clear hv0 hv1
  refine (texts_any r0 s0 k0 pa0 na0 ca0 pb0 nb0 cb0 r1 s1 k1 pa1 na1 ca1 pb1 nb1 cb1 S0 S1 hca0 hca1 W hA0.bx hA1.bx hS hCv).mono fun e W' ⟨he, hb⟩ => ?_
  subst he
  exact ⟨_, rfl, post_of_below (pa := q0 ++ q1) (pv := []) hW' (fun _ _ _ => trodAll_mk1 (shut_bool bool_under true))
    (fun sp hsp => ⟨q0, q1, WideElems.Trod_stays (by kernel_rfl) (by kernel_rfl) (of_decide_eq_true (by kernel_rfl)) h0 (fun x hx => hb.same (hlt x (by simp [hx]))) (fun x hx => hsp x (by simp [hx])), ⟨q1, [], WideElems.Trod_stays (by kernel_rfl) (by kernel_rfl) (of_decide_eq_true (by kernel_rfl)) h1 (fun x hx => hb.same (hlt x (by simp [hx]))) (fun x hx => hsp x (by simp [hx])), rfl, by simp⟩, by simp⟩)
    (fun _ _ => rfl) (by simp) hb
    (ok_one (by kernel_rfl) rfl (okWide_bool_mk bool_under true))⟩
theorem rootTexts_row : Rows.RootTextsSaid :=
  OpenClaim.holds_of_wide 5 Tryz.f5 rfl rfl rfl rfl rfl rfl rfl ⟨rfl, rfl, rfl, rfl, rfl⟩ rfl rfl rfl rfl rfl (by kernel_rfl) Tryz.func5 (by kernel_rfl)
    (of_decide_eq_true (by kernel_rfl)) (by unfold Func.isWrapper; first | (rw [if_pos (by decide +kernel)]; kernel_rfl) | (rw [if_neg (by decide +kernel)]; exact ⟨rfl, rfl⟩))
    (fun os started H enc _ => rootTexts_lifted os started H enc)
theorem rootTexts_holds : Rows.RootTextsCardSaid :=
  Claim7.holds_tied_plain_at .later [] [.data, .data, .data, .data] true (true, "72087f2b6518ba3ca8f5a6e732784f24e9910f740a98764daa57a58567a5505c") true
    rootTexts_row (fun _ h => by cases h) (by kernel_rfl) (fun _ h => by cases h) rootTexts_row_tie rfl ⟨rfl, rfl⟩ (by kernel_rfl) rfl
    (fun f fn hf hfn => by
      obtain rfl : f = 5 := Option.some.inj ((show Tryz.prog.funcNamed "buttress/buttresslaw15.RootTexts" = some 5 by kernel_rfl).symm.trans hf) |>.symm
      obtain rfl : fn = Tryz.f5 := (Option.some.inj (Tryz.func5.symm.trans hfn)).symm
      exact ⟨by kernel_rfl, fun j t ht => by
        rw [Tryz.params5] at ht
        have hm : t ∈ [28] := by simpa using Array.mem_of_getElem? ht
        have hall : ([28].all fun u => !Tryz.prog.wantsStandIn u) = true := by kernel_rfl
        exact (show Tryz.prog.wantsStandIn t = false by simpa using List.all_eq_true.1 hall t hm)⟩)
    (by kernel_rfl)
end Go.Proofs.YtgjffaoggjlamaaGreatDoor
