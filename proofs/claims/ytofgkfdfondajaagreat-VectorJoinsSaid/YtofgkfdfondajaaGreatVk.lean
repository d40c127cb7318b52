/- VectorJoins answers true at every input, and its arguments read as they did; no condition. -/
import Derived.Test.YtofgkfdfondajaaGreatRows
import Derived.Test.YtofgkfdfondajaaGreatVj
import Derived.Test.YtofgkfdfondajaaGreatBl
import Derived.ChangeSlices
import Derived.Deep.SlicePairs
import Derived.OpenShut
import Derived.Carry
namespace Go.Proofs.YtofgkfdfondajaaGreat
open Go.ChangeShapes Go.WideShapes Go.ChangeAt Go.RowKit

theorem cell_lt {w : World} {a : Addr} {v : Value} (h : w.cell? a = some v) : a.block < w.heap.size := by
  rcases Nat.lt_or_ge a.block w.heap.size with hl | hl
  · exact hl
  · unfold World.cell? at h
    simp [Array.getElem?_eq_none hl] at h
theorem add_sp (b o : Nat) (i : Nat) : (⟨b, o, none⟩ : Addr).add i = ⟨b, o + i, none⟩ := add_lit2 b o i
section
variable {H : Type} {enc : TypeId × Value → H} {W : World} {base : Nat} {sp : Nat → Bool} {held : Bool} {fuel : Nat}
theorem flat2 (V0 V1 : Nat → Int) (n : Nat) : ∃ ds : List Int, ds.length = 2 * n ∧ ∀ i, i < n → ds.getD (i * 2) 0 = V0 i ∧ ds.getD (i * 2 + 1) 0 = V1 i := by
  refine ⟨(List.range (2 * n)).map fun j => if j % 2 = 0 then V0 (j / 2) else V1 (j / 2), by simp, fun i hi => ⟨?_, ?_⟩⟩
  · have h : i * 2 < 2 * n := by omega
    simp [List.getD_eq_getElem?_getD, h]
  · have h : i * 2 + 1 < 2 * n := by omega
    have h2 : (i * 2 + 1) % 2 = 1 := by omega
    have h3 : (i * 2 + 1) / 2 = i := by omega
    simp [List.getD_eq_getElem?_getD, h, h2, h3]
theorem open_dots {cs : List Value} {x : DataW H × List MemPlace} (h : DataW.trod enc Tryz.prog W base sp held fuel 23 cs = some x) : ∃ p n c ds, cs = [.slice p n c] ∧ DotsL W p n ds := by
  rcases Deep.open_slice_pairs Tryz.underlying23 Tryz.underlying35 (by kernel_rfl) rfl rfl (by kernel_rfl) (by kernel_rfl) h with ⟨rfl, _⟩ | ⟨a, len, cap, m, n, V0, V1, D0, D1, P0, P1, rfl, _, hl, _, hm, _, hc⟩
  · exact ⟨none, 0, 0, [], rfl, rfl, fun h => by omega⟩
  · have hlm : len ≤ m := by rw [hm]; split <;> omega
    have h0 : ∀ i, i < len → ∃ z, V0 i = .int .i64 z := fun i hi => by
      obtain ⟨_, _, h3, _⟩ := hc i (by omega)
      obtain ⟨z, hz, _⟩ := DataW.trod_int int_under h3
      exact ⟨z, by simpa using hz⟩
    have h1 : ∀ i, i < len → ∃ z, V1 i = .int .i64 z := fun i hi => by
      obtain ⟨_, _, _, h4⟩ := hc i (by omega)
      obtain ⟨z, hz, _⟩ := DataW.trod_int int_under h4
      exact ⟨z, by simpa using hz⟩
    obtain ⟨Z0, hZ0⟩ := Deep.choose_lt h0
    obtain ⟨Z1, hZ1⟩ := Deep.choose_lt h1
    obtain ⟨ds, hd, hds⟩ := flat2 Z0 Z1 len
    refine ⟨some a, len, cap, ds, rfl, hd, fun hm2 => ?_⟩
    have hc0 := (hc 0 (by omega)).1
    have hs : a.spot = none := by simpa [Addr.add] using World.cell?_spot hc0
    obtain ⟨b, o, s⟩ := a
    obtain rfl : s = none := hs
    refine ⟨b, o, rfl, by have := cell_lt hc0; rwa [add_sp] at this, fun j hj => ?_⟩
    have hq := hc (j / 2) (by omega)
    have hd2 := hds (j / 2) (by omega)
    rcases Nat.mod_two_eq_zero_or_one j with hm3 | hm3
    · have e : j / 2 * 2 = j := by omega
      have h5 := hq.1
      rw [add_sp, e, hZ0 _ (by omega)] at h5
      rw [e] at hd2
      rw [h5, ← hd2.1]
    · have e : j / 2 * 2 + 1 = j := by omega
      have h5 := hq.2.1
      rw [add_sp, e, hZ1 _ (by omega)] at h5
      rw [e] at hd2
      rw [h5, ← hd2.2]
theorem arg_dots {q : Option Addr} {n c : Nat} {d : DataW H} {ps : List MemPlace} (h : DataW.Trod enc Tryz.prog W 0 sp held 23 (.slice q n c) d ps) : ∃ ds, DotsL W q n ds := by
  obtain ⟨fuel, hf⟩ := h
  obtain ⟨p, n', c', ds, e, hD⟩ := open_dots hf
  simp only [Value.cells, List.cons.injEq, Value.slice.injEq, and_true] at e
  obtain ⟨rfl, rfl, rfl⟩ := e
  exact ⟨ds, hD⟩
/-- rows of rows of dots -/
theorem open_rows {cs : List Value} {x : DataW H × List MemPlace} (h : DataW.trod enc Tryz.prog W base sp held fuel 22 cs = some x) : ∃ (p : Option Addr) (n c : Nat) (P : Nat → Option Addr) (N C : Nat → Nat) (L : Nat → List Int), cs = [.slice p n c] ∧ RowAt W p n (fun i => .slice (P i) (N i) (C i)) ∧ ∀ i, i < n → DotsL W (P i) (N i) (L i) := by
  rcases Deep.open_slice1 (e := 23) (by kernel_rfl) (by kernel_rfl) h with ⟨rfl, _⟩ | ⟨a, len, cap, m, n, V, D, Pl, rfl, _, hl, _, hm, _, hc⟩
  · exact ⟨none, 0, 0, fun _ => none, fun _ => 0, fun _ => 0, fun _ => [], rfl, fun h => absurd h (by decide), fun i hi => absurd hi (by omega)⟩
  · have hlm : len ≤ m := by rw [hm]; split <;> omega
    have each : ∀ i, i < len → ∃ y : Option Addr × Nat × Nat × List Int, V i = .slice y.1 y.2.1 y.2.2.1 ∧ DotsL W y.1 y.2.1 y.2.2.2 := fun i hi => by
      obtain ⟨p, n', c, ds, e, hD⟩ := open_dots (hc i (by omega)).2
      exact ⟨(p, n', c, ds), by simpa using e, hD⟩
    obtain ⟨y, hy⟩ := Deep.choose_lt each
    refine ⟨some a, len, cap, fun i => (y i).1, fun i => (y i).2.1, fun i => (y i).2.2.1, fun i => (y i).2.2.2, rfl, fun h0 => ?_, fun i hi => (hy i hi).2⟩
    have h0 := (hc 0 (by omega)).1
    have hs : a.spot = none := by simpa [Addr.add] using World.cell?_spot h0
    obtain ⟨b, o, s⟩ := a
    obtain rfl : s = none := hs
    refine ⟨b, o, rfl, by have := cell_lt h0; rwa [add_sp] at this, fun j hj => ?_⟩
    have h2 := (hc j (by omega)).1
    rw [add_sp, (hy j hj).1] at h2
    exact h2
theorem arg_rows {q : Option Addr} {n c : Nat} {d : DataW H} {ps : List MemPlace} (h : DataW.Trod enc Tryz.prog W 0 sp held 22 (.slice q n c) d ps) : ∃ (P : Nat → Option Addr) (N C : Nat → Nat) (L : Nat → List Int), RowAt W q n (fun i => .slice (P i) (N i) (C i)) ∧ ∀ i, i < n → DotsL W (P i) (N i) (L i) := by
  obtain ⟨fuel, hf⟩ := h
  obtain ⟨p, n', c', P, N, C, L, e, hR, hL⟩ := open_rows hf
  simp only [Value.cells, List.cons.injEq, Value.slice.injEq, and_true] at e
  obtain ⟨rfl, rfl, rfl⟩ := e
  exact ⟨P, N, C, L, hR, hL⟩
end
theorem own_ : ownKnob Tryz.prog.godebug = none := by kernel_rfl
theorem bool_under : Tryz.prog.underlying 4 = some .bool := by kernel_rfl
set_option maxRecDepth 100000 in
theorem vectorJoins_lifted (os : Os) (started : os.Started) (H : Type) (enc : TypeId × Value → H) :
    ReturnsInHanded {} Tryz.checked os 3 .any (Rows.vectorJoinsSpec.pre6 enc Tryz.prog Tryz.f3 Rows.vectorJoinsRow.domain false) (Rows.vectorJoinsSpec.post enc Tryz.prog Tryz.f3 false true false false) := by
  refine returnsInHanded_of_change (C := Tryz.checked) own_ started (by kernel_rfl) Tryz.func3
    (ChangeSpec.witness6 (enc := enc) (C := Tryz.checked) false ⟨#[], #[.slice none 0 0, .slice none 0 0, .slice none 0 0], []⟩ 8 (by kernel_rfl) (by kernel_rfl) (by kernel_rfl) (by kernel_rfl)) ?_
  intro W base args ds gs before hval0 hW hcnd _
  have hval : ∀ (j : Nat) t v, Tryz.f3.params[j]? = some t → args[j]? = some v → Value.okWide Tryz.prog W .any base t v := hval0
  have hW' := hW
  obtain ⟨p, q, hA0, hV, rfl, hfz, hnd⟩ := hW
  have hA : DataW.TrodAll enc Tryz.prog W 0 (fun _ => true) true Tryz.f3.params.toList args.toList ds p := hA0
  rw [Tryz.params3] at hA hval
  obtain ⟨v0, v1, v2, d0, d1, d2, p0, p1, p2, rfl, rfl, rfl, h0, h1, h2⟩ := trodAll_three hA
  obtain ⟨rfl, rfl⟩ := trodVars_none hV
  obtain ⟨q0, n0, c0, rfl⟩ := okWide_slice (e := 23) (by kernel_rfl) (hval 0 22 v0 rfl rfl)
  obtain ⟨q1, n1, c1, rfl⟩ := okWide_slice ds_under (hval 1 23 v1 rfl rfl)
  obtain ⟨q2, n2, c2, rfl⟩ := okWide_slice ds_under (hval 2 23 v2 rfl rfl)
  obtain ⟨P, N, C, L, hR, hL⟩ := arg_rows h0
  obtain ⟨l1, hD1⟩ := arg_dots h1
  obtain ⟨l2, hD2⟩ := arg_dots h2
  clear hA0 hval0 hval
  simp only [List.append_nil, List.append_assoc] at hW'
  refine (vectorJoins_c q0 n0 c0 P N C L q1 n1 c1 l1 q2 n2 c2 l2 W hR hL hD1 hD2).mono fun e W' ⟨he, hb⟩ => ?_
  subst he
  have hlt : ∀ x ∈ p0 ++ (p1 ++ p2), x.block < W.heap.size := fun x hx => hW'.lt x hx
  exact ⟨_, rfl, post_of_below (pa := p0 ++ (p1 ++ p2)) (pv := []) hW' (fun _ _ _ => trodAll_mk1 (shut_bool bool_under true))
    (fun sp hsp => ⟨p0, p1 ++ p2, WideElems.Trod_stays (by kernel_rfl) (by kernel_rfl) (of_decide_eq_true (by kernel_rfl)) h0 (fun x hx => hb.same (hlt x (by simp [hx]))) (fun x hx => hsp x (by simp [hx])),
      ⟨p1, p2, WideElems.Trod_stays (by kernel_rfl) (by kernel_rfl) (of_decide_eq_true (by kernel_rfl)) h1 (fun x hx => hb.same (hlt x (by simp [hx]))) (fun x hx => hsp x (by simp [hx])),
        ⟨p2, [], WideElems.Trod_stays (by kernel_rfl) (by kernel_rfl) (of_decide_eq_true (by kernel_rfl)) h2 (fun x hx => hb.same (hlt x (by simp [hx]))) (fun x hx => hsp x (by simp [hx])), rfl, by simp⟩, rfl⟩, rfl⟩)
    (fun _ _ => rfl) (by simp) hb
    (ok_one (by kernel_rfl) rfl (okWide_bool_mk bool_under true))⟩

theorem vectorJoins_holds : Rows.VectorJoinsSaid :=
  OpenClaim.holds_of_wide 3 Tryz.f3 rfl rfl rfl rfl rfl rfl rfl ⟨rfl, rfl, rfl, rfl, rfl⟩ rfl rfl rfl rfl rfl (by kernel_rfl) Tryz.func3 (by kernel_rfl)
    (of_decide_eq_true (by kernel_rfl)) (by unfold Func.isWrapper; rw [if_neg (by decide +kernel)]; exact ⟨rfl, rfl⟩)
    (fun os started H enc _ => vectorJoins_lifted os started H enc)
end Go.Proofs.YtofgkfdfondajaaGreat
