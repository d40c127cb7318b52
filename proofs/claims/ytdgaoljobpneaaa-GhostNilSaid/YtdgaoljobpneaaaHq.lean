/- GhostNil answers true at every input, and its arguments read as they did; no condition. -/
import Derived.Test.YtdgaoljobpneaaaRows
import Derived.Test.YtdgaoljobpneaaaHp
import Derived.Test.YtdgaoljobpneaaaBl
import Derived.ChangeSlices
import Derived.Deep.SlicePairs
import Derived.OpenShut
import Derived.Carry
namespace Go.Proofs.Ytdgaoljobpneaaa
open Go.ChangeShapes Go.WideShapes Go.ChangeAt Go.RowKit

theorem cell_lt {w : World} {a : Addr} {v : Value} (h : w.cell? a = some v) : a.block < w.heap.size := by
  rcases Nat.lt_or_ge a.block w.heap.size with hl | hl
  · exact hl
  · unfold World.cell? at h
    simp [Array.getElem?_eq_none hl] at h
theorem add_sp (b o : Nat) (i : Nat) : (⟨b, o, none⟩ : Addr).add i = ⟨b, o + i, none⟩ := add_o b o i
section
variable {H : Type} {enc : TypeId × Value → H} {W : World} {base : Nat} {sp : Nat → Bool} {held : Bool} {fuel : Nat}
theorem open_bytes {cs : List Value} {x : DataW H × List MemPlace} (h : DataW.trod enc Try.prog W base sp held fuel 23 cs = some x) : ∃ p n c xs, cs = [.slice p n c] ∧ n = xs.length ∧ BytesL W p xs := by
  rcases open_ints bs_under u8_under (by kernel_rfl) h with ⟨rfl, _⟩ | ⟨a, len, cap, zs, rfl, _, hl, _, hz, _, hc, _⟩
  · exact ⟨none, 0, 0, [], rfl, rfl, fun h => absurd h (by decide)⟩
  · have hlz : len ≤ zs.length := by rw [hz]; split <;> omega
    refine ⟨some a, len, cap, zs.take len, rfl, by simp; omega, fun hm => ?_⟩
    have hl2 : (zs.take len).length = len := by simp; omega
    rw [hl2] at hm
    have h0 := hc 0 (by omega)
    have hs : a.spot = none := by simpa [Addr.add] using World.cell?_spot h0
    obtain ⟨b, o, s⟩ := a
    obtain rfl : s = none := hs
    refine ⟨b, o, rfl, by have := cell_lt h0; rwa [add_sp] at this, fun j hj => ?_⟩
    rw [hl2] at hj
    have := hc j (by omega)
    rw [add_sp] at this
    rw [this]
    simp [List.getD_eq_getElem?_getD, hj]
theorem flat2 (V0 V1 : Nat → Int) (n : Nat) : ∃ ds : List Int, ds.length = 2 * n ∧ ∀ i, i < n → ds.getD (i * 2) 0 = V0 i ∧ ds.getD (i * 2 + 1) 0 = V1 i := by
  refine ⟨(List.range (2 * n)).map fun j => if j % 2 = 0 then V0 (j / 2) else V1 (j / 2), by simp, fun i hi => ⟨?_, ?_⟩⟩
  · have h : i * 2 < 2 * n := by omega
    simp [List.getD_eq_getElem?_getD, h]
  · have h : i * 2 + 1 < 2 * n := by omega
    have h2 : (i * 2 + 1) % 2 = 1 := by omega
    have h3 : (i * 2 + 1) / 2 = i := by omega
    simp [List.getD_eq_getElem?_getD, h, h2, h3]
theorem open_dots {cs : List Value} {x : DataW H × List MemPlace} (h : DataW.trod enc Try.prog W base sp held fuel 22 cs = some x) : ∃ p n c ds, cs = [.slice p n c] ∧ DotsL W p n ds := by
  rcases Deep.open_slice_pairs Try.underlying22 Try.underlying86 (by kernel_rfl) rfl rfl (by kernel_rfl) (by kernel_rfl) h with ⟨rfl, _⟩ | ⟨a, len, cap, m, n, V0, V1, D0, D1, P0, P1, rfl, _, hl, _, hm, _, hc⟩
  · exact ⟨none, 0, 0, [], rfl, rfl, fun h => by omega⟩
  · have hlm : len ≤ m := by rw [hm]; split <;> omega
    have h0 : ∀ i, i < len → ∃ z, V0 i = .int .i64 z := fun i hi => by
      obtain ⟨_, _, h3, _⟩ := hc i (by omega)
      obtain ⟨z, hz, _⟩ := DataW.trod_int int_under h3
      exact ⟨z, by simpa using hz⟩
    have h1 : ∀ i, i < len → ∃ z, V1 i = .int .i64 z := fun i hi => by
      obtain ⟨_, _, _, h4⟩ := hc i (by omega)
      obtain ⟨z, hz, _⟩ := DataW.trod_int int_under h4
      exact ⟨z, by simpa using hz⟩
    obtain ⟨Z0, hZ0⟩ := Deep.choose_lt h0
    obtain ⟨Z1, hZ1⟩ := Deep.choose_lt h1
    obtain ⟨ds, hd, hds⟩ := flat2 Z0 Z1 len
    refine ⟨some a, len, cap, ds, rfl, hd, fun hm2 => ?_⟩
    have hc0 := (hc 0 (by omega)).1
    have hs : a.spot = none := by simpa [Addr.add] using World.cell?_spot hc0
    obtain ⟨b, o, s⟩ := a
    obtain rfl : s = none := hs
    refine ⟨b, o, rfl, by have := cell_lt hc0; rwa [add_sp] at this, fun j hj => ?_⟩
    have hq := hc (j / 2) (by omega)
    have hd2 := hds (j / 2) (by omega)
    rcases Nat.mod_two_eq_zero_or_one j with hm3 | hm3
    · have e : j / 2 * 2 = j := by omega
      have h5 := hq.1
      rw [add_sp, e, hZ0 _ (by omega)] at h5
      rw [e] at hd2
      rw [h5, ← hd2.1]
    · have e : j / 2 * 2 + 1 = j := by omega
      have h5 := hq.2.1
      rw [add_sp, e, hZ1 _ (by omega)] at h5
      rw [e] at hd2
      rw [h5, ← hd2.2]
theorem list7 {cs : List Value} (h : cs.length = 7) : ∃ a b c d e f g, cs = [a, b, c, d, e, f, g] := by
  match cs, h with
  | [a, b, c, d, e, f, g], _ => exact ⟨a, b, c, d, e, f, g, rfl⟩
set_option maxRecDepth 20000 in
theorem open_rec {v : Value} {d : DataW H} {ps : List MemPlace} (hval : Value.okWide Try.prog W .any base 25 v) (h : DataW.Trod enc Try.prog W 0 sp held 25 v d ps) :
    ∃ k cl sq p1 n1 c1 gone p2 n2 c2 p3 n3 c3 ds vs ss, v = .agg #[.string k, .int .i64 cl, .int .i64 sq, .slice p1 n1 c1, .bool gone, .slice p2 n2 c2, .slice p3 n3 c3] ∧ DotsL W p1 n1 ds ∧ n2 = vs.length ∧ BytesL W p2 vs ∧ n3 = ss.length ∧ BytesL W p3 ss := by
  obtain ⟨cs, rfl, hcs⟩ := okWide_struct Try.underlying25 hval
  obtain ⟨fuel, hf⟩ := h
  obtain ⟨xs, n, _, _, hl, hx, hfl⟩ := DataW.trod_struct Try.underlying25 hf
  have h7 : Try.prog.cellsOf 25 = 7 := by kernel_rfl
  rw [h7] at hl
  obtain ⟨a, b, c, e, f, g, i, hcs7⟩ := list7 hl
  rw [hcs7] at hfl
  have hget : ∀ i, i < 7 → ∃ y, xs[i]? = some y := fun i hi => ⟨xs[i]'(by rw [hx]; exact hi), List.getElem?_eq_getElem _⟩
  obtain ⟨y0, e0⟩ := hget 0 (by decide)
  obtain ⟨y1, e1⟩ := hget 1 (by decide)
  obtain ⟨y2, e2⟩ := hget 2 (by decide)
  obtain ⟨y3, e3⟩ := hget 3 (by decide)
  obtain ⟨y4, e4⟩ := hget 4 (by decide)
  obtain ⟨y5, e5⟩ := hget 5 (by decide)
  obtain ⟨y6, e6⟩ := hget 6 (by decide)
  have c9 : Try.prog.cellsOf 9 = 1 := by kernel_rfl
  have c3 : Try.prog.cellsOf 3 = 1 := by kernel_rfl
  have c22 : Try.prog.cellsOf 22 = 1 := by kernel_rfl
  have c4 : Try.prog.cellsOf 4 = 1 := by kernel_rfl
  have c23 : Try.prog.cellsOf 23 = 1 := by kernel_rfl
  have t0 : DataW.trod enc Try.prog W 0 sp held n 9 (List.take (Try.prog.cellsOf 9) (List.drop 0 [a, b, c, e, f, g, i])) = some y0 := (hfl 0 _ rfl).trans e0
  rw [c9] at t0
  change DataW.trod enc Try.prog W 0 sp held n 9 [a] = some y0 at t0
  have t1 : DataW.trod enc Try.prog W 0 sp held n 3 (List.take (Try.prog.cellsOf 3) (List.drop 1 [a, b, c, e, f, g, i])) = some y1 := (hfl 1 _ rfl).trans e1
  rw [c3] at t1
  change DataW.trod enc Try.prog W 0 sp held n 3 [b] = some y1 at t1
  have t2 : DataW.trod enc Try.prog W 0 sp held n 3 (List.take (Try.prog.cellsOf 3) (List.drop 2 [a, b, c, e, f, g, i])) = some y2 := (hfl 2 _ rfl).trans e2
  rw [c3] at t2
  change DataW.trod enc Try.prog W 0 sp held n 3 [c] = some y2 at t2
  have t3 : DataW.trod enc Try.prog W 0 sp held n 22 (List.take (Try.prog.cellsOf 22) (List.drop 3 [a, b, c, e, f, g, i])) = some y3 := (hfl 3 _ rfl).trans e3
  rw [c22] at t3
  change DataW.trod enc Try.prog W 0 sp held n 22 [e] = some y3 at t3
  have t4 : DataW.trod enc Try.prog W 0 sp held n 4 (List.take (Try.prog.cellsOf 4) (List.drop 4 [a, b, c, e, f, g, i])) = some y4 := (hfl 4 _ rfl).trans e4
  rw [c4] at t4
  change DataW.trod enc Try.prog W 0 sp held n 4 [f] = some y4 at t4
  have t5 : DataW.trod enc Try.prog W 0 sp held n 23 (List.take (Try.prog.cellsOf 23) (List.drop 5 [a, b, c, e, f, g, i])) = some y5 := (hfl 5 _ rfl).trans e5
  rw [c23] at t5
  change DataW.trod enc Try.prog W 0 sp held n 23 [g] = some y5 at t5
  have t6 : DataW.trod enc Try.prog W 0 sp held n 23 (List.take (Try.prog.cellsOf 23) (List.drop 6 [a, b, c, e, f, g, i])) = some y6 := (hfl 6 _ rfl).trans e6
  rw [c23] at t6
  change DataW.trod enc Try.prog W 0 sp held n 23 [i] = some y6 at t6
  obtain ⟨k, hk, _⟩ := DataW.trod_string str_under t0
  obtain ⟨cl, hcl, _⟩ := DataW.trod_int int_under t1
  obtain ⟨sq, hsq, _⟩ := DataW.trod_int int_under t2
  obtain ⟨p1, n1, c1, ds, hd, hD⟩ := open_dots t3
  obtain ⟨gone, hg, _⟩ := DataW.trod_bool (by kernel_rfl) t4
  obtain ⟨p2, n2, c2, vs, hv, hn2, hV⟩ := open_bytes t5
  obtain ⟨p3, n3, c3', ss, hs, hn3, hS⟩ := open_bytes t6
  simp only [List.cons.injEq, and_true] at hk hcl hsq hd hg hv hs
  subst hk hcl hsq hd hg hv hs
  refine ⟨k, cl, sq, p1, n1, c1, gone, p2, n2, c2, p3, n3, c3', ds, vs, ss, ?_, hD, hn2, hV, hn3, hS⟩
  rw [show cs = #[.string k, .int .i64 cl, .int .i64 sq, .slice p1 n1 c1, .bool gone, .slice p2 n2 c2, .slice p3 n3 c3'] from by
    have : cs.toList = _ := hcs7
    exact Array.toList_inj.1 this]
theorem list5 {cs : List Value} (h : cs.length = 5) : ∃ a b c d e, cs = [a, b, c, d, e] := by
  match cs, h with
  | [a, b, c, d, e], _ => exact ⟨a, b, c, d, e, rfl⟩
set_option maxRecDepth 20000 in
theorem open_root {v : Value} {d : DataW H} {ps : List MemPlace} (hval : Value.okWide Try.prog W .any base 27 v) (h : DataW.Trod enc Try.prog W 0 sp held 27 v d ps) :
    ∃ r h q p2 n2 c2 p3 n3 c3 vs ss, v = .agg #[.int .i64 r, .int .i64 h, .int .i64 q, .slice p2 n2 c2, .slice p3 n3 c3] ∧ n2 = vs.length ∧ BytesL W p2 vs ∧ n3 = ss.length ∧ BytesL W p3 ss := by
  obtain ⟨cs, rfl, hcs⟩ := okWide_struct Try.underlying27 hval
  obtain ⟨fuel, hf⟩ := h
  obtain ⟨xs, n, _, _, hl, hx, hfl⟩ := DataW.trod_struct Try.underlying27 hf
  have h5 : Try.prog.cellsOf 27 = 5 := by kernel_rfl
  rw [h5] at hl
  obtain ⟨a, b, c, e, f, hcs5⟩ := list5 hl
  rw [hcs5] at hfl
  have hget : ∀ i, i < 5 → ∃ y, xs[i]? = some y := fun i hi => ⟨xs[i]'(by rw [hx]; exact hi), List.getElem?_eq_getElem _⟩
  obtain ⟨y0, e0⟩ := hget 0 (by decide)
  obtain ⟨y1, e1⟩ := hget 1 (by decide)
  obtain ⟨y2, e2⟩ := hget 2 (by decide)
  obtain ⟨y3, e3⟩ := hget 3 (by decide)
  obtain ⟨y4, e4⟩ := hget 4 (by decide)
  have c3 : Try.prog.cellsOf 3 = 1 := by kernel_rfl
  have c23 : Try.prog.cellsOf 23 = 1 := by kernel_rfl
  have t0 : DataW.trod enc Try.prog W 0 sp held n 3 (List.take (Try.prog.cellsOf 3) (List.drop 0 [a, b, c, e, f])) = some y0 := (hfl 0 _ rfl).trans e0
  rw [c3] at t0
  change DataW.trod enc Try.prog W 0 sp held n 3 [a] = some y0 at t0
  have t1 : DataW.trod enc Try.prog W 0 sp held n 3 (List.take (Try.prog.cellsOf 3) (List.drop 1 [a, b, c, e, f])) = some y1 := (hfl 1 _ rfl).trans e1
  rw [c3] at t1
  change DataW.trod enc Try.prog W 0 sp held n 3 [b] = some y1 at t1
  have t2 : DataW.trod enc Try.prog W 0 sp held n 3 (List.take (Try.prog.cellsOf 3) (List.drop 2 [a, b, c, e, f])) = some y2 := (hfl 2 _ rfl).trans e2
  rw [c3] at t2
  change DataW.trod enc Try.prog W 0 sp held n 3 [c] = some y2 at t2
  have t5 : DataW.trod enc Try.prog W 0 sp held n 23 (List.take (Try.prog.cellsOf 23) (List.drop 3 [a, b, c, e, f])) = some y3 := (hfl 3 _ rfl).trans e3
  rw [c23] at t5
  change DataW.trod enc Try.prog W 0 sp held n 23 [e] = some y3 at t5
  have t6 : DataW.trod enc Try.prog W 0 sp held n 23 (List.take (Try.prog.cellsOf 23) (List.drop 4 [a, b, c, e, f])) = some y4 := (hfl 4 _ rfl).trans e4
  rw [c23] at t6
  change DataW.trod enc Try.prog W 0 sp held n 23 [f] = some y4 at t6
  obtain ⟨r, hr, _⟩ := DataW.trod_int int_under t0
  obtain ⟨h, hh, _⟩ := DataW.trod_int int_under t1
  obtain ⟨q, hq, _⟩ := DataW.trod_int int_under t2
  obtain ⟨p2, n2, c2, vs, hv, hn2, hV⟩ := open_bytes t5
  obtain ⟨p3, n3, c3', ss, hs, hn3, hS⟩ := open_bytes t6
  simp only [List.cons.injEq, and_true] at hr hh hq hv hs
  subst hr hh hq hv hs
  refine ⟨r, h, q, p2, n2, c2, p3, n3, c3', vs, ss, ?_, hn2, hV, hn3, hS⟩
  rw [show cs = #[.int .i64 r, .int .i64 h, .int .i64 q, .slice p2 n2 c2, .slice p3 n3 c3'] from by
    have : cs.toList = _ := hcs5
    exact Array.toList_inj.1 this]
end
theorem own_ : ownKnob Try.prog.godebug = none := by kernel_rfl
theorem bool_under : Try.prog.underlying 4 = some .bool := by kernel_rfl
set_option maxRecDepth 100000 in
theorem ghostNil_lifted (os : Os) (started : os.Started) (H : Type) (enc : TypeId × Value → H) :
    ReturnsInHanded {} Try.checked os 3 .any (Rows.ghostNilSpec.pre6 enc Try.prog Try.f3 Rows.ghostNilRow.domain false) (Rows.ghostNilSpec.post enc Try.prog Try.f3 false true false false) := by
  refine returnsInHanded_of_change (C := Try.checked) own_ started (by kernel_rfl) Try.func3
    (ChangeSpec.witness6 (enc := enc) (C := Try.checked) false ⟨#[], #[.agg #[.string ⟨#[]⟩, .int .i64 0, .int .i64 0, .slice none 0 0, .bool false, .slice none 0 0, .slice none 0 0], .agg #[.int .i64 0, .int .i64 0, .int .i64 0, .slice none 0 0, .slice none 0 0]], []⟩ 8 (by kernel_rfl) (by kernel_rfl) (by kernel_rfl) (by kernel_rfl)) ?_
  intro W base args ds gs before hval0 hW hcnd _
  have hval : ∀ (j : Nat) t v, Try.f3.params[j]? = some t → args[j]? = some v → Value.okWide Try.prog W .any base t v := hval0
  have hW' := hW
  obtain ⟨p, q, hA0, hV, rfl, hfz, hnd⟩ := hW
  have hA : DataW.TrodAll enc Try.prog W 0 (fun _ => true) true Try.f3.params.toList args.toList ds p := hA0
  rw [Try.params3] at hA hval
  obtain ⟨v0, v1, d0, d1, p0, p1, rfl, rfl, rfl, h0, h1⟩ := trodAll_two hA
  obtain ⟨rfl, rfl⟩ := trodVars_none hV
  have hv0 := hval 0 25 v0 rfl rfl
  have hv1 := hval 1 27 v1 rfl rfl
  obtain ⟨k, cl, sq, q1, n1, c1, gone, q2, n2, c2, q3, n3, c3, es, vs, ss, rfl, -, -, -, -, -⟩ := open_rec hv0 h0
  obtain ⟨r, h, q, p2, m2, d2, p3, m3, d3, vsb, ssb, rfl, -, -, -, -⟩ := open_root hv1 h1
  clear hA0 hval0 hv0 hv1
  simp only [List.append_nil] at hW'
  refine (ghostNil_c _ _ _ _ _ _ _ _ _ _ _ _ W).mono fun e W' ⟨he, hb⟩ => ?_
  subst he
  have hlt : ∀ x ∈ p0 ++ p1, x.block < W.heap.size := fun x hx => hW'.lt x hx
  exact ⟨_, rfl, post_of_below (pa := p0 ++ p1) (pv := []) hW' (fun _ _ _ => trodAll_mk1 (shut_bool bool_under true))
    (fun sp hsp => ⟨p0, p1, WideElems.Trod_stays (by kernel_rfl) (by kernel_rfl) (of_decide_eq_true (by kernel_rfl)) h0 (fun x hx => hb.same (hlt x (List.mem_append_left _ hx))) (fun x hx => hsp x (List.mem_append_left _ hx)),
      ⟨p1, [], WideElems.Trod_stays (by kernel_rfl) (by kernel_rfl) (of_decide_eq_true (by kernel_rfl)) h1 (fun x hx => hb.same (hlt x (List.mem_append_right _ hx))) (fun x hx => hsp x (List.mem_append_right _ hx)), rfl, by simp⟩, rfl⟩)
    (fun _ _ => rfl) (by simp) hb
    (ok_one (by kernel_rfl) rfl (okWide_bool_mk bool_under true))⟩

theorem ghostNil_holds : Rows.GhostNilSaid :=
  OpenClaim.holds_of_wide 3 Try.f3 rfl rfl rfl rfl rfl rfl rfl ⟨rfl, rfl, rfl, rfl, rfl⟩ rfl rfl rfl rfl rfl (by kernel_rfl) Try.func3 (by kernel_rfl)
    (of_decide_eq_true (by kernel_rfl)) (by unfold Func.isWrapper; rw [if_neg (by decide +kernel)]; exact ⟨rfl, rfl⟩)
    (fun os started H enc _ => ghostNil_lifted os started H enc)
end Go.Proofs.Ytdgaoljobpneaaa
