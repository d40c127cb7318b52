/- VectorTells answers true at every input, and its arguments read as they did; no condition. -/
import Derived.Test.YtofgkfdfondajaaRows
import Derived.Test.YtofgkfdfondajaaTe
import Derived.Test.YtofgkfdfondajaaBl
import Derived.ChangeSlices
import Derived.Deep.SlicePairs
import Derived.OpenShut
import Derived.Carry
namespace Go.Proofs.Ytofgkfdfondajaa
open Go.ChangeShapes Go.WideShapes Go.ChangeAt Go.RowKit

theorem cell_lt {w : World} {a : Addr} {v : Value} (h : w.cell? a = some v) : a.block < w.heap.size := by
  rcases Nat.lt_or_ge a.block w.heap.size with hl | hl
  · exact hl
  · unfold World.cell? at h
    simp [Array.getElem?_eq_none hl] at h
theorem add_sp (b o : Nat) (i : Nat) : (⟨b, o, none⟩ : Addr).add i = ⟨b, o + i, none⟩ := add_lit2 b o i
section
variable {H : Type} {enc : TypeId × Value → H} {W : World} {base : Nat} {sp : Nat → Bool} {held : Bool} {fuel : Nat}
theorem flat2 (V0 V1 : Nat → Int) (n : Nat) : ∃ ds : List Int, ds.length = 2 * n ∧ ∀ i, i < n → ds.getD (i * 2) 0 = V0 i ∧ ds.getD (i * 2 + 1) 0 = V1 i := by
  refine ⟨(List.range (2 * n)).map fun j => if j % 2 = 0 then V0 (j / 2) else V1 (j / 2), by simp, fun i hi => ⟨?_, ?_⟩⟩
  · have h : i * 2 < 2 * n := by omega
    simp [List.getD_eq_getElem?_getD, h]
  · have h : i * 2 + 1 < 2 * n := by omega
    have h2 : (i * 2 + 1) % 2 = 1 := by omega
    have h3 : (i * 2 + 1) / 2 = i := by omega
    simp [List.getD_eq_getElem?_getD, h, h2, h3]
theorem open_dots {cs : List Value} {x : DataW H × List MemPlace} (h : DataW.trod enc Try.prog W base sp held fuel 22 cs = some x) : ∃ p n c ds, cs = [.slice p n c] ∧ DotsL W p n ds := by
  rcases Deep.open_slice_pairs Try.underlying22 Try.underlying24 (by kernel_rfl) rfl rfl (by kernel_rfl) (by kernel_rfl) h with ⟨rfl, _⟩ | ⟨a, len, cap, m, n, V0, V1, D0, D1, P0, P1, rfl, _, hl, _, hm, _, hc⟩
  · exact ⟨none, 0, 0, [], rfl, rfl, fun h => by omega⟩
  · have hlm : len ≤ m := by rw [hm]; split <;> omega
    have h0 : ∀ i, i < len → ∃ z, V0 i = .int .i64 z := fun i hi => by
      obtain ⟨_, _, h3, _⟩ := hc i (by omega)
      obtain ⟨z, hz, _⟩ := DataW.trod_int int_under h3
      exact ⟨z, by simpa using hz⟩
    have h1 : ∀ i, i < len → ∃ z, V1 i = .int .i64 z := fun i hi => by
      obtain ⟨_, _, _, h4⟩ := hc i (by omega)
      obtain ⟨z, hz, _⟩ := DataW.trod_int int_under h4
      exact ⟨z, by simpa using hz⟩
    obtain ⟨Z0, hZ0⟩ := Deep.choose_lt h0
    obtain ⟨Z1, hZ1⟩ := Deep.choose_lt h1
    obtain ⟨ds, hd, hds⟩ := flat2 Z0 Z1 len
    refine ⟨some a, len, cap, ds, rfl, hd, fun hm2 => ?_⟩
    have hc0 := (hc 0 (by omega)).1
    have hs : a.spot = none := by simpa [Addr.add] using World.cell?_spot hc0
    obtain ⟨b, o, s⟩ := a
    obtain rfl : s = none := hs
    refine ⟨b, o, rfl, by have := cell_lt hc0; rwa [add_sp] at this, fun j hj => ?_⟩
    have hq := hc (j / 2) (by omega)
    have hd2 := hds (j / 2) (by omega)
    rcases Nat.mod_two_eq_zero_or_one j with hm3 | hm3
    · have e : j / 2 * 2 = j := by omega
      have h5 := hq.1
      rw [add_sp, e, hZ0 _ (by omega)] at h5
      rw [e] at hd2
      rw [h5, ← hd2.1]
    · have e : j / 2 * 2 + 1 = j := by omega
      have h5 := hq.2.1
      rw [add_sp, e, hZ1 _ (by omega)] at h5
      rw [e] at hd2
      rw [h5, ← hd2.2]
theorem arg_dots {q : Option Addr} {n c : Nat} {d : DataW H} {ps : List MemPlace} (h : DataW.Trod enc Try.prog W 0 sp held 22 (.slice q n c) d ps) : ∃ ds, DotsL W q n ds := by
  obtain ⟨fuel, hf⟩ := h
  obtain ⟨p, n', c', ds, e, hD⟩ := open_dots hf
  simp only [Value.cells, List.cons.injEq, Value.slice.injEq, and_true] at e
  obtain ⟨rfl, rfl, rfl⟩ := e
  exact ⟨ds, hD⟩
theorem open_dot {v : Value} {d : DataW H} {ps : List MemPlace} (hval : Value.okWide Try.prog W .any base 24 v) (h : DataW.Trod enc Try.prog W 0 sp held 24 v d ps) : ∃ x y, v = .agg #[.int .i64 x, .int .i64 y] := by
  obtain ⟨cs, rfl, hcs⟩ := okWide_struct Try.underlying24 hval
  obtain ⟨fuel, hf⟩ := h
  obtain ⟨xs, n, _, _, hl, hx, hfl⟩ := DataW.trod_struct Try.underlying24 hf
  have h7 : Try.prog.cellsOf 24 = 2 := by kernel_rfl
  rw [h7] at hl
  obtain ⟨a, b, hcs7⟩ : ∃ a b, (Value.agg cs).cells.toList = [a, b] := by
    match (Value.agg cs).cells.toList, hl with
    | [a, b], _ => exact ⟨a, b, rfl⟩
  rw [hcs7] at hfl
  have hget : ∀ i, i < 2 → ∃ y, xs[i]? = some y := fun i hi => ⟨xs[i]'(by rw [hx]; exact hi), List.getElem?_eq_getElem _⟩
  obtain ⟨y0, e0⟩ := hget 0 (by decide)
  obtain ⟨y1, e1⟩ := hget 1 (by decide)
  have c3 : Try.prog.cellsOf 3 = 1 := by kernel_rfl
  have t0 : DataW.trod enc Try.prog W 0 sp held n 3 (List.take (Try.prog.cellsOf 3) (List.drop 0 [a, b])) = some y0 := (hfl 0 _ rfl).trans e0
  rw [c3] at t0
  change DataW.trod enc Try.prog W 0 sp held n 3 [a] = some y0 at t0
  have t1 : DataW.trod enc Try.prog W 0 sp held n 3 (List.take (Try.prog.cellsOf 3) (List.drop 1 [a, b])) = some y1 := (hfl 1 _ rfl).trans e1
  rw [c3] at t1
  change DataW.trod enc Try.prog W 0 sp held n 3 [b] = some y1 at t1
  obtain ⟨x, hk, _⟩ := DataW.trod_int int_under t0
  obtain ⟨y, hy, _⟩ := DataW.trod_int int_under t1
  simp only [List.cons.injEq, and_true] at hk hy
  subst hk hy
  have h9 : cs.toList = _ := hcs7
  exact ⟨x, y, by rw [show cs = #[.int .i64 x, .int .i64 y] from Array.toList_inj.1 h9]⟩
end
theorem own_ : ownKnob Try.prog.godebug = none := by kernel_rfl
theorem bool_under : Try.prog.underlying 4 = some .bool := by kernel_rfl
set_option maxRecDepth 100000 in
theorem vectorTells_lifted (os : Os) (started : os.Started) (H : Type) (enc : TypeId × Value → H) :
    ReturnsInHanded {} Try.checked os 3 .any (Rows.vectorTellsSpec.pre6 enc Try.prog Try.f3 Rows.vectorTellsRow.domain false) (Rows.vectorTellsSpec.post enc Try.prog Try.f3 false true false false) := by
  refine returnsInHanded_of_change (C := Try.checked) own_ started (by kernel_rfl) Try.func3
    (ChangeSpec.witness6 (enc := enc) (C := Try.checked) false ⟨#[], #[.slice none 0 0, .slice none 0 0, .agg #[.int .i64 0, .int .i64 0]], []⟩ 8 (by kernel_rfl) (by kernel_rfl) (by kernel_rfl) (by kernel_rfl)) ?_
  intro W base args ds gs before hval0 hW hcnd _
  have hval : ∀ (j : Nat) t v, Try.f3.params[j]? = some t → args[j]? = some v → Value.okWide Try.prog W .any base t v := hval0
  have hW' := hW
  obtain ⟨p, q, hA0, hV, rfl, hfz, hnd⟩ := hW
  have hA : DataW.TrodAll enc Try.prog W 0 (fun _ => true) true Try.f3.params.toList args.toList ds p := hA0
  rw [Try.params3] at hA hval
  obtain ⟨v0, v1, v2, d0, d1, d2, p0, p1, p2, rfl, rfl, rfl, h0, h1, h2⟩ := trodAll_three hA
  obtain ⟨rfl, rfl⟩ := trodVars_none hV
  have hv2 := hval 2 24 v2 rfl rfl
  obtain ⟨q0, n0, c0, rfl⟩ := okWide_slice ds_under (hval 0 22 v0 rfl rfl)
  obtain ⟨q1, n1, c1, rfl⟩ := okWide_slice ds_under (hval 1 22 v1 rfl rfl)
  obtain ⟨l0, hD0⟩ := arg_dots h0
  obtain ⟨l1, hD1⟩ := arg_dots h1
  obtain ⟨tt, ss, rfl⟩ := open_dot hv2 h2
  clear hA0 hval0 hval hv2
  simp only [List.append_nil, List.append_assoc] at hW'
  refine (vectorTells_c q0 n0 c0 l0 q1 n1 c1 l1 tt ss W hD0 hD1).mono fun e W' ⟨he, hb⟩ => ?_
  subst he
  have hlt : ∀ x ∈ p0 ++ (p1 ++ p2), x.block < W.heap.size := fun x hx => hW'.lt x hx
  exact ⟨_, rfl, post_of_below (pa := p0 ++ (p1 ++ p2)) (pv := []) hW' (fun _ _ _ => trodAll_mk1 (shut_bool bool_under true))
    (fun sp hsp => ⟨p0, p1 ++ p2, WideElems.Trod_stays (by kernel_rfl) (by kernel_rfl) (of_decide_eq_true (by kernel_rfl)) h0 (fun x hx => hb.same (hlt x (by simp [hx]))) (fun x hx => hsp x (by simp [hx])),
      ⟨p1, p2, WideElems.Trod_stays (by kernel_rfl) (by kernel_rfl) (of_decide_eq_true (by kernel_rfl)) h1 (fun x hx => hb.same (hlt x (by simp [hx]))) (fun x hx => hsp x (by simp [hx])),
        ⟨p2, [], WideElems.Trod_stays (by kernel_rfl) (by kernel_rfl) (of_decide_eq_true (by kernel_rfl)) h2 (fun x hx => hb.same (hlt x (by simp [hx]))) (fun x hx => hsp x (by simp [hx])), rfl, by simp⟩, rfl⟩, rfl⟩)
    (fun _ _ => rfl) (by simp) hb
    (ok_one (by kernel_rfl) rfl (okWide_bool_mk bool_under true))⟩

theorem vectorTells_holds : Rows.VectorTellsSaid :=
  OpenClaim.holds_of_wide 3 Try.f3 rfl rfl rfl rfl rfl rfl rfl ⟨rfl, rfl, rfl, rfl, rfl⟩ rfl rfl rfl rfl rfl (by kernel_rfl) Try.func3 (by kernel_rfl)
    (of_decide_eq_true (by kernel_rfl)) (by unfold Func.isWrapper; rw [if_neg (by decide +kernel)]; exact ⟨rfl, rfl⟩)
    (fun os started H enc _ => vectorTells_lifted os started H enc)
end Go.Proofs.Ytofgkfdfondajaa
