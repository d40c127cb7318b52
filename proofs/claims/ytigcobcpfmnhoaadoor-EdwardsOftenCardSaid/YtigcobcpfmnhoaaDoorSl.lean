/- EdwardsOften answers true at every input, and its arguments read as they did; its two package variables are tied to the program's text. -/
import Derived.Test.YtigcobcpfmnhoaaDoorSk
import Derived.Test.YtigcobcpfmnhoaaDoorZf
namespace Go.Proofs.YtigcobcpfmnhoaaDoor
open Go.RowKit
set_option maxRecDepth 20000 in
set_option maxHeartbeats 4000000 in
theorem often_long (q1 : Option Addr) (n1 c1 : Nat) (q2 : Option Addr) (n2 c2 : Nat) (q3 : Option Addr) (n3 c3 : Nat) (h : (100 : Int) < n1 ∨ ((n1 : Int) ≤ 100 ∧ (100 : Int) < n2) ∨ ((n1 : Int) ≤ 100 ∧ (n2 : Int) ≤ 100 ∧ (100 : Int) < n3)) (w : World) (hCv : CvP w) : Calls Tryd.prog 3 #[.slice q1 n1 c1, .slice q2 n2 c2, .slice q3 n3 c3] w fun e w' => e = .returned (.bool true) ∧ Below w.heap.size w w' := by
  replace hCv := Lib.hid hCv
  replace h := Lib.hid h
  go_enter Tryd.func3, Tryd.ntmps3
  go_wp2_with fail
  refine (awake4_c w hCv.out).mono ?_
  rintro e w1 ⟨rfl, hb0⟩
  replace hb0 := Lib.hid hb0
  rcases h.out with h1 | ⟨h1, h2⟩ | ⟨h1, h2, h3⟩
  · clear h
    go_wp2
    go_returns
    exact ⟨rfl, hb0.out⟩
  · clear h
    go_wp2
    go_returns
    exact ⟨rfl, hb0.out⟩
  clear h
  go_wp2
  go_returns
  exact ⟨rfl, hb0.out⟩
theorem often_any (q1 : Option Addr) (n1 c1 : Nat) (b1 : Nat → Int) (q2 : Option Addr) (n2 c2 : Nat) (b2 : Nat → Int) (q3 : Option Addr) (n3 c3 : Nat) (b3 : Nat → Int) (hr1 : ∀ j, 0 ≤ b1 j ∧ b1 j < 256) (hr2 : ∀ j, 0 ≤ b2 j ∧ b2 j < 256) (hr3 : ∀ j, 0 ≤ b3 j ∧ b3 j < 256) (w : World) (hB1 : BAt w q1 n1 b1) (hB2 : BAt w q2 n2 b2) (hB3 : BAt w q3 n3 b3) (hCv : CvP w) : Calls Tryd.prog 3 #[.slice q1 n1 c1, .slice q2 n2 c2, .slice q3 n3 c3] w fun e w' => e = .returned (.bool true) ∧ Below w.heap.size w w' := by
  by_cases h1 : n1 ≤ 100
  · by_cases h2 : n2 ≤ 100
    · by_cases h3 : n3 ≤ 100
      · exact often4_c q1 n1 c1 b1 q2 n2 c2 b2 q3 n3 c3 b3 hr1 hr2 hr3 h1 h2 h3 w hB1 hB2 hB3 hCv
      exact often_long q1 n1 c1 q2 n2 c2 q3 n3 c3 (by omega) w hCv
    exact often_long q1 n1 c1 q2 n2 c2 q3 n3 c3 (by omega) w hCv
  exact often_long q1 n1 c1 q2 n2 c2 q3 n3 c3 (by omega) w hCv
end Go.Proofs.YtigcobcpfmnhoaaDoor
namespace Go.Proofs.YtigcobcpfmnhoaaDoor
open Go.ChangeShapes Go.WideShapes Go.ChangeAt Go.WideMaps Go.WideElems Go.RowKit
section
variable {H : Type} {enc : TypeId × Value → H} {W : World}
set_option maxRecDepth 100000 in
/-- an argument of bytes is opened -/
theorem open_bs {base : Nat} {r : Reach} {b0 : Nat} {sp : Nat → Bool} {v : Value} {d : DataW H} {ps : List MemPlace} (hv : Value.okWide Tryd.prog W r b0 22 v) (h : DataW.Trod enc Tryd.prog W base sp true 22 v d ps) :
    ∃ p n c b, v = .slice p n c ∧ (∀ j, 0 ≤ b j ∧ b j < 256) ∧ BAt W p n b := by
  obtain ⟨a1, len, cap, rfl⟩ := okWide_slice bs_underK hv
  obtain ⟨fuel, hf⟩ := h
  rcases open_ints bs_underK u8_under u8_cells hf with ⟨hcs, hx⟩ | ⟨a, len', cap', zs, hcs, _, hl, hm, hz, hx, hcell, hwz⟩
  · simp [Value.cells] at hcs
    obtain ⟨rfl, rfl, rfl⟩ := hcs
    exact ⟨none, 0, 0, fun _ => 0, rfl, fun _ => ⟨Int.le_refl _, show (0 : Int) < 256 by decide⟩, fun h => absurd h (by decide)⟩
  simp [Value.cells] at hcs
  obtain ⟨rfl, rfl, rfl⟩ := hcs
  have hlz : len ≤ zs.length := by rw [hz]; split <;> omega
  refine ⟨some a, len, cap, fun j => zs.getD j 0, rfl, fun j => by
    have := range_u8 hwz j
    show 0 ≤ zs.getD j 0 ∧ zs.getD j 0 < 256
    rw [List.getD_eq_getElem?_getD]
    omega, fun hpos => ?_⟩
  obtain ⟨ab, ao, spot⟩ := a
  have hc1 := hcell 0 (by omega)
  have hspot : spot = none := by simpa [Addr.add] using World.cell?_spot hc1
  subst hspot
  refine ⟨ab, ao, rfl, ?_, fun j hj => ?_⟩
  · rcases Nat.lt_or_ge ab W.heap.size with h | h
    · exact h
    rw [add_o] at hc1
    simp only [World.cell?, Array.getElem?_eq_none h] at hc1
    cases hc1
  have := hcell j (by omega)
  rwa [add_o] at this
end
set_option maxRecDepth 100000 in
theorem edwardsOften_lifted (os : Os) (started : os.Started) (H : Type) (enc : TypeId × Value → H) :
    ReturnsInHanded {} Tryd.checked os 3 .any (fun w args => (Rows.edwardsOftenSpec.pre enc Tryd.prog Tryd.f3 [] false w args ∧ laidMetH Tryd.prog laidE w) ∧ sizedMet enc Tryd.prog Tryd.f3 (OpenSpec.ofChange Rows.edwardsOftenSpec) false w args)
      (Rows.edwardsOftenSpec.post enc Tryd.prog Tryd.f3 false true false false) := by
  refine returnsInHanded_of_change_and (C := Tryd.checked) (X := fun w _ => laidMetH Tryd.prog laidE w) (fun _ _ _ hh h => h.of_heap hh) own_ started (by kernel_rfl) Tryd.func3
    (ChangeSpec.witness_shaped (enc := enc) (C := Tryd.checked) (os := os) (X := fun w _ => laidMetH Tryd.prog laidE w) false (World.doorLaid Tryd.prog 400 os) #[.slice none 0 0, .slice none 0 0, .slice none 0 0] 8 rfl (World.shaped_of_RefB (by kernel_rfl) (by kernel_rfl)) (by kernel_rfl) (by kernel_rfl) (by kernel_rfl) (door_met os _)) ?_
  intro W base args ds gs before hval0 hW _ _ hL _
  have hval : ∀ (j : Nat) t v, Tryd.f3.params[j]? = some t → args[j]? = some v → Value.okWide Tryd.prog W .any base t v := hval0
  have hW' := hW
  obtain ⟨p, q, hA0, hV, rfl, hfz, hnd⟩ := hW
  have hA : DataW.TrodAll enc Tryd.prog W 0 (fun _ => true) true Tryd.f3.params.toList args.toList ds p := hA0
  rw [Tryd.params3] at hA hval
  obtain ⟨v0, v1, v2, d0, d1, d2, p0, p1, p2', rfl, rfl, rfl, h0, h1, h2⟩ := trodAll_three hA
  obtain ⟨rfl, rfl⟩ := trodVars_none hV
  have hv0 := hval 0 22 v0 rfl rfl
  have hv1 := hval 1 22 v1 rfl rfl
  have hv2 := hval 2 22 v2 rfl rfl
  clear hA0 hval0
  simp only [List.append_nil] at hW'
  have hCv := of_laid hL
  have hlt : ∀ x ∈ p0 ++ p1 ++ p2', x.block < W.heap.size := fun x hx => hW'.lt x hx
  obtain ⟨q1, n1, c1, b1, rfl, hr1, hB1⟩ := open_bs hv0 h0
  obtain ⟨q2, n2, c2, b2, rfl, hr2, hB2⟩ := open_bs hv1 h1
  obtain ⟨q3, n3, c3, b3, rfl, hr3, hB3⟩ := open_bs hv2 h2
  clear hv0 hv1 hv2
  refine (often_any q1 n1 c1 b1 q2 n2 c2 b2 q3 n3 c3 b3 hr1 hr2 hr3 W hB1 hB2 hB3 hCv).mono fun e W' ⟨he, hb⟩ => ?_
  subst he
  exact ⟨_, rfl, post_of_below (pa := p0 ++ p1 ++ p2') (pv := []) hW' (fun _ _ _ => trodAll_mk1 (shut_bool bool_under true))
    (fun sp hsp => ⟨p0, p1 ++ p2', WideElems.Trod_stays (by kernel_rfl) (by kernel_rfl) (of_decide_eq_true (by kernel_rfl)) h0 (fun x hx => hb.same (hlt x (by simp [hx]))) (fun x hx => hsp x (by simp [hx])),
      ⟨p1, p2', WideElems.Trod_stays (by kernel_rfl) (by kernel_rfl) (of_decide_eq_true (by kernel_rfl)) h1 (fun x hx => hb.same (hlt x (by simp [hx]))) (fun x hx => hsp x (by simp [hx])),
        ⟨p2', [], WideElems.Trod_stays (by kernel_rfl) (by kernel_rfl) (of_decide_eq_true (by kernel_rfl)) h2 (fun x hx => hb.same (hlt x (by simp [hx]))) (fun x hx => hsp x (by simp [hx])), rfl, by simp⟩, rfl⟩, by simp⟩)
    (fun _ _ => rfl) (by simp) hb
    (ok_one (by kernel_rfl) rfl (okWide_bool_mk bool_under true))⟩
theorem edwardsOften_row : Rows.EdwardsOftenSaid :=
  OpenClaim.holds_of_wide 3 Tryd.f3 rfl rfl rfl rfl rfl rfl rfl ⟨rfl, rfl, rfl, rfl, rfl⟩ rfl rfl rfl rfl rfl (by kernel_rfl) Tryd.func3 (by kernel_rfl)
    (of_decide_eq_true (by kernel_rfl)) (by unfold Func.isWrapper; first | (rw [if_pos (by decide +kernel)]; kernel_rfl) | (rw [if_neg (by decide +kernel)]; exact ⟨rfl, rfl⟩))
    (fun os started H enc _ => edwardsOften_lifted os started H enc)
theorem edwardsOften_holds : Rows.EdwardsOftenCardSaid :=
  Claim7.holds_tied_plain_at .later [] [.data, .data] true (true, "a06a5f42cf0c09f176d34a59e5acbcd267f18f753cd36d94d019ae18e5601fbf") false
    edwardsOften_row (fun _ h => by cases h) (by kernel_rfl) (fun _ h => by cases h) edwardsOften_row_tie rfl ⟨rfl, rfl⟩ (by kernel_rfl) rfl
    (fun f fn hf hfn => by
      obtain rfl : f = 3 := Option.some.inj ((show Tryd.prog.funcNamed "buttress/buttresslaw04.EdwardsOften" = some 3 by kernel_rfl).symm.trans hf) |>.symm
      obtain rfl : fn = Tryd.f3 := (Option.some.inj (Tryd.func3.symm.trans hfn)).symm
      exact ⟨by kernel_rfl, fun j t ht => by
        rw [Tryd.params3] at ht
        have hm : t ∈ [22] := by simpa using Array.mem_of_getElem? ht
        have hall : ([22].all fun u => !Tryd.prog.wantsStandIn u) = true := by kernel_rfl
        exact (show Tryd.prog.wantsStandIn t = false by simpa using List.all_eq_true.1 hall t hm)⟩)
    (by kernel_rfl)
end Go.Proofs.YtigcobcpfmnhoaaDoor
