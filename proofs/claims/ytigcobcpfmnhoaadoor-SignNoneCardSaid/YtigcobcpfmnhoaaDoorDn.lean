/- SignNone answers true at every input, and its arguments read as they did; its four package variables are tied to the program's text. -/
import Derived.Test.YtigcobcpfmnhoaaDoorCu
import Derived.Test.YtigcobcpfmnhoaaDoorCv
namespace Go.Proofs.YtigcobcpfmnhoaaDoor
open Go Go.RowKit
set_option maxRecDepth 20000 in
set_option maxHeartbeats 4000000 in
theorem none_long (p1 p2 p3 p4 : Option Addr) (n1 c1 n2 c2 n3 c3 n4 c4 : Nat) (h : (300 : Int) < n1 ∨ ((n1 : Int) ≤ 300 ∧ (300 : Int) < n2) ∨ ((n1 : Int) ≤ 300 ∧ (n2 : Int) ≤ 300 ∧ (300 : Int) < n3) ∨ ((n1 : Int) ≤ 300 ∧ (n2 : Int) ≤ 300 ∧ (n3 : Int) ≤ 300 ∧ (1000 : Int) < n4)) (w : World) (hS : ShP w) (hCv : CvP w) : Calls Tryd.prog 6 #[.slice p1 n1 c1, .slice p2 n2 c2, .slice p3 n3 c3, .slice p4 n4 c4] w (PostV (.bool true) w) := by
  have ha := Lib.hid (awake5_c w hS hCv)
  replace h := Lib.hid h
  clear hS hCv
  go_enter Tryd.func6, Tryd.ntmps6
  go_wp2_with fail
  refine ha.out.mono ?_
  rintro e w1 ⟨rfl, hb0⟩
  replace hb0 := Lib.hid hb0
  clear ha
  rcases h.out with h1 | ⟨h1, h2⟩ | ⟨h1, h2, h3⟩ | ⟨h1, h2, h3, h4⟩
  all_goals (clear h; go_wp2; go_returns; exact ⟨rfl, hb0.out⟩)
set_option maxRecDepth 20000 in
set_option maxHeartbeats 4000000 in
theorem none_short (p1 p2 p3 p4 : Option Addr) (n1 c1 n2 c2 n3 c3 n4 c4 : Nat) (h1 : (n1 : Int) ≤ 300) (h2 : (n2 : Int) ≤ 300) (h3 : (n3 : Int) ≤ 300) (h4 : (n4 : Int) ≤ 1000) (hA : (n1 : Int) = 32 ∨ ¬ (n1 : Int) = 32) (hB : ((n2 : Int) = 32 ∧ (n3 : Int) = 64) ∨ ¬ (n2 : Int) = 32 ∨ ((n2 : Int) = 32 ∧ ¬ (n3 : Int) = 64)) (w : World) (hS : ShP w) (hCv : CvP w) : Calls Tryd.prog 6 #[.slice p1 n1 c1, .slice p2 n2 c2, .slice p3 n3 c3, .slice p4 n4 c4] w (PostV (.bool true) w) := by
  have ha := Lib.hid (awake5_c w hS hCv)
  have hPx := Lib.hid (fun w1 (hb : Below w.heap.size w w1) (h : ¬ (n1 : Int) = 32) => (Publicx_c p1 n1 c1 (by omega) w1).mono fun e w' h => (⟨h.1, hb.trans (h.2.mono hb.size)⟩ : PostV (.slice none 0 0) w e w'))
  have hSx := Lib.hid (fun w1 v (hb : Below w.heap.size w w1) (h : ¬ (n1 : Int) = 32) => (Signx_c p1 n1 c1 (by omega) v w1).mono fun e w' h => (⟨h.1, hb.trans (h.2.mono hb.size)⟩ : PostV (.slice none 0 0) w e w'))
  have hVx := Lib.hid (fun w1 v (hb : Below w.heap.size w w1) (h : ¬ (n2 : Int) = 32 ∨ ((n2 : Int) = 32 ∧ ¬ (n3 : Int) = 64)) => show Calls Tryd.prog 22 #[.slice p2 n2 c2, .slice p3 n3 c3, v] w1 (PostV (.bool false) w) from by
    have h5 : Calls Tryd.prog 22 #[.slice p2 n2 c2, .slice p3 n3 c3, v] w1 (PostV (.bool false) w1) := by
      rcases h with h | ⟨h, k⟩
      · exact verify_x1 p2 p3 n2 c2 n3 c3 v (by omega) w1
      · obtain rfl : n2 = 32 := by omega
        exact verify_x2 p2 p3 c2 n3 c3 v (by omega) w1
    exact h5.mono fun e w' h => ⟨h.1, hb.trans (h.2.mono hb.size)⟩)
  replace hA := Lib.hid hA
  replace hB := Lib.hid hB
  clear hS hCv
  go_enter Tryd.func6, Tryd.ntmps6
  go_wp2_with fail
  refine ha.out.mono ?_
  rintro e w1 ⟨rfl, hb⟩
  clear ha
  rcases hA.out with k1 | k1 <;> rcases hB.out with ⟨k2, k3⟩ | k2 | ⟨k2, k3⟩
  all_goals clear hA hB
  all_goals go_wp2_with (first | (go_at_call 20; refine (hPx.out _ hb k1).mono ?_; clear hb; rintro e w2 ⟨rfl, hb⟩) | (go_at_call 21; refine (hSx.out _ _ (hb.alloc hb.size _) k1).mono ?_; clear hb; rintro e w3 ⟨rfl, hb⟩) | (go_at_call 22; refine (hVx.out _ _ (hb.alloc hb.size _) (by first | exact .inl k2 | exact .inr ⟨k2, k3⟩)).mono ?_; clear hb; rintro e w3 ⟨rfl, hb⟩))
  all_goals (go_returns; exact ⟨rfl, hb⟩)
theorem none_any (p1 p2 p3 p4 : Option Addr) (n1 c1 n2 c2 n3 c3 n4 c4 : Nat) (w : World) (hS : ShP w) (hCv : CvP w) : Calls Tryd.prog 6 #[.slice p1 n1 c1, .slice p2 n2 c2, .slice p3 n3 c3, .slice p4 n4 c4] w (PostV (.bool true) w) := by
  by_cases h : (300 : Int) < n1 ∨ ((n1 : Int) ≤ 300 ∧ (300 : Int) < n2) ∨ ((n1 : Int) ≤ 300 ∧ (n2 : Int) ≤ 300 ∧ (300 : Int) < n3) ∨ ((n1 : Int) ≤ 300 ∧ (n2 : Int) ≤ 300 ∧ (n3 : Int) ≤ 300 ∧ (1000 : Int) < n4)
  · exact none_long p1 p2 p3 p4 n1 c1 n2 c2 n3 c3 n4 c4 h w hS hCv
  · exact none_short p1 p2 p3 p4 n1 c1 n2 c2 n3 c3 n4 c4 (by omega) (by omega) (by omega) (by omega) (by omega) (by omega) w hS hCv
end Go.Proofs.YtigcobcpfmnhoaaDoor
namespace Go.Proofs.YtigcobcpfmnhoaaDoor
open Go.ChangeShapes Go.WideShapes Go.ChangeAt Go.WideMaps Go.WideElems Go.RowKit
set_option maxRecDepth 100000 in
theorem signNone_lifted (os : Os) (started : os.Started) (H : Type) (enc : TypeId × Value → H) :
    ReturnsInHanded {} Tryd.checked os 6 .any (fun w args => (Rows.signNoneSpec.pre enc Tryd.prog Tryd.f6 [] false w args ∧ laidMetH Tryd.prog laidS w) ∧ sizedMet enc Tryd.prog Tryd.f6 (OpenSpec.ofChange Rows.signNoneSpec) false w args)
      (Rows.signNoneSpec.post enc Tryd.prog Tryd.f6 false true false false) := by
  refine returnsInHanded_of_change_and (C := Tryd.checked) (X := fun w _ => laidMetH Tryd.prog laidS w) (fun _ _ _ hh h => h.of_heap hh) own_ started (by kernel_rfl) Tryd.func6
    (ChangeSpec.witness_shaped (enc := enc) (C := Tryd.checked) (os := os) (X := fun w _ => laidMetH Tryd.prog laidS w) false (World.doorLaid Tryd.prog 400 os) #[.slice none 0 0, .slice none 0 0, .slice none 0 0, .slice none 0 0] 8 rfl (World.shaped_of_RefB (by kernel_rfl) (by kernel_rfl)) (by kernel_rfl) (by kernel_rfl) (by kernel_rfl) (door_met os _)) ?_
  intro W base args ds gs before hval0 hW _ _ hL _
  have hval : ∀ (j : Nat) t v, Tryd.f6.params[j]? = some t → args[j]? = some v → Value.okWide Tryd.prog W .any base t v := hval0
  have hW' := hW
  obtain ⟨p, q, hA0, hV, rfl, hfz, hnd⟩ := hW
  have hA : DataW.TrodAll enc Tryd.prog W 0 (fun _ => true) true Tryd.f6.params.toList args.toList ds p := hA0
  rw [Tryd.params6] at hA hval
  obtain ⟨v0, v1, v2, v3, d0, d1, d2, d3, q0, q1, q2, q3, rfl, rfl, rfl, h0, h1, h2, h3⟩ := trodAll_four hA
  obtain ⟨rfl, rfl⟩ := trodVars_none hV
  have hv0 := hval 0 22 v0 rfl rfl
  have hv1 := hval 1 22 v1 rfl rfl
  have hv2 := hval 2 22 v2 rfl rfl
  have hv3 := hval 3 22 v3 rfl rfl
  clear hA0 hval0
  simp only [List.append_nil] at hW'
  obtain ⟨hCv, hS⟩ := of_laid hL
  have hlt : ∀ x ∈ q0 ++ q1 ++ q2 ++ q3, x.block < W.heap.size := fun x hx => hW'.lt x hx
  obtain ⟨a0, n0, c0, b0, rfl, hr0, hB0⟩ := open_bs hv0 h0
  obtain ⟨a1, n1, c1, b1, rfl, hr1, hB1⟩ := open_bs hv1 h1
  obtain ⟨a2, n2, c2, b2, rfl, hr2, hB2⟩ := open_bs hv2 h2
  obtain ⟨a3, n3, c3, b3, rfl, hr3, hB3⟩ := open_bs hv3 h3
  clear hv0 hv1 hv2 hv3
  refine (none_any a0 a1 a2 a3 n0 c0 n1 c1 n2 c2 n3 c3 W hS hCv).mono fun e W' ⟨he, hb⟩ => ?_
  subst he
  exact ⟨_, rfl, post_of_below (pa := q0 ++ q1 ++ q2 ++ q3) (pv := []) hW' (fun _ _ _ => trodAll_mk1 (shut_bool bool_under true))
    (fun sp hsp => ⟨q0, (q1 ++ q2 ++ q3), WideElems.Trod_stays (by kernel_rfl) (by kernel_rfl) (of_decide_eq_true (by kernel_rfl)) h0 (fun x hx => hb.same (hlt x (by simp [hx]))) (fun x hx => hsp x (by simp [hx])), ⟨q1, (q2 ++ q3), WideElems.Trod_stays (by kernel_rfl) (by kernel_rfl) (of_decide_eq_true (by kernel_rfl)) h1 (fun x hx => hb.same (hlt x (by simp [hx]))) (fun x hx => hsp x (by simp [hx])), ⟨q2, q3, WideElems.Trod_stays (by kernel_rfl) (by kernel_rfl) (of_decide_eq_true (by kernel_rfl)) h2 (fun x hx => hb.same (hlt x (by simp [hx]))) (fun x hx => hsp x (by simp [hx])), ⟨q3, [], WideElems.Trod_stays (by kernel_rfl) (by kernel_rfl) (of_decide_eq_true (by kernel_rfl)) h3 (fun x hx => hb.same (hlt x (by simp [hx]))) (fun x hx => hsp x (by simp [hx])), rfl, by simp⟩, by simp⟩, by simp⟩, by simp⟩)
    (fun _ _ => rfl) (by simp) hb
    (ok_one (by kernel_rfl) rfl (okWide_bool_mk bool_under true))⟩
theorem signNone_row : Rows.SignNoneSaid :=
  OpenClaim.holds_of_wide 6 Tryd.f6 rfl rfl rfl rfl rfl rfl rfl ⟨rfl, rfl, rfl, rfl, rfl⟩ rfl rfl rfl rfl rfl (by kernel_rfl) Tryd.func6 (by kernel_rfl)
    (of_decide_eq_true (by kernel_rfl)) (by unfold Func.isWrapper; first | (rw [if_pos (by decide +kernel)]; kernel_rfl) | (rw [if_neg (by decide +kernel)]; exact ⟨rfl, rfl⟩))
    (fun os started H enc _ => signNone_lifted os started H enc)
theorem signNone_holds : Rows.SignNoneCardSaid :=
  Claim7.holds_tied_plain_at .later [] [.data, .data, .data, .data] true (true, "a06a5f42cf0c09f176d34a59e5acbcd267f18f753cd36d94d019ae18e5601fbf") false
    signNone_row (fun _ h => by cases h) (by kernel_rfl) (fun _ h => by cases h) signNone_row_tie rfl ⟨rfl, rfl⟩ (by kernel_rfl) rfl
    (fun f fn hf hfn => by
      obtain rfl : f = 6 := Option.some.inj ((show Tryd.prog.funcNamed "buttress/buttresslaw05.SignNone" = some 6 by kernel_rfl).symm.trans hf) |>.symm
      obtain rfl : fn = Tryd.f6 := (Option.some.inj (Tryd.func6.symm.trans hfn)).symm
      exact ⟨by kernel_rfl, fun j t ht => by
        rw [Tryd.params6] at ht
        have hm : t ∈ [22] := by simpa using Array.mem_of_getElem? ht
        have hall : ([22].all fun u => !Tryd.prog.wantsStandIn u) = true := by kernel_rfl
        exact (show Tryd.prog.wantsStandIn t = false by simpa using List.all_eq_true.1 hall t hm)⟩)
    (by kernel_rfl)
end Go.Proofs.YtigcobcpfmnhoaaDoor
