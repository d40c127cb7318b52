/- GhostKeeps answers true wherever its arguments are of bulk at most 1048576, and they read as they did. -/
import Derived.Test.YtdgaoljobpneaaaRows
import Derived.Test.YtdgaoljobpneaaaHx
import Derived.Test.YtdgaoljobpneaaaBl
import Derived.ChangeSlices
import Derived.Deep.SlicePairs
import Derived.OpenShut
import Derived.Carry
import Derived.JoinedCond
namespace Go.Proofs.Ytdgaoljobpneaaa
open Go.ChangeShapes Go.WideShapes Go.ChangeAt Go.RowKit

theorem bk_one {H : Type} (d : DataW H) : 1 ≤ Rows.uptoBulk d := by
  cases d with
  | lit l => cases l <;> simp [Rows.uptoBulk]
  | nil => simp [Rows.uptoBulk]
  | ptr d => simp [Rows.uptoBulk]
  | slice elems spare => simp [Rows.uptoBulk]
  | agg parts => simp [Rows.uptoBulk]
  | iface t d => simp [Rows.uptoBulk]
  | map entries => simp [Rows.uptoBulk]
  | held h => simp [Rows.uptoBulk]
theorem bk_part {H : Type} {d : DataW H} {l : List (DataW H)} (h : d ∈ l) : Rows.uptoBulk d ≤ Rows.uptoBulkAll l := by
  induction l with
  | nil => cases h
  | cons x r ih =>
    simp only [Rows.uptoBulkAll]
    cases List.mem_cons.1 h with
    | inl e => subst e; omega
    | inr e => have := ih e; omega
theorem bk_len {H : Type} (l : List (DataW H)) : l.length ≤ Rows.uptoBulkAll l := by
  induction l with
  | nil => simp [Rows.uptoBulkAll]
  | cons x r ih => have := bk_one x; simp only [Rows.uptoBulkAll, List.length_cons]; omega
theorem bk_slice {H : Type} (elems spare : List (DataW H)) : elems.length ≤ Rows.uptoBulk (.slice elems spare) ∧ Rows.uptoBulkAll elems ≤ Rows.uptoBulk (.slice elems spare) := by
  have h1 := bk_len elems
  simp only [Rows.uptoBulk]
  omega
theorem cell_lt {w : World} {a : Addr} {v : Value} (h : w.cell? a = some v) : a.block < w.heap.size := by
  rcases Nat.lt_or_ge a.block w.heap.size with hl | hl
  · exact hl
  · unfold World.cell? at h
    simp [Array.getElem?_eq_none hl] at h
theorem add_sp (b o : Nat) (i : Nat) : (⟨b, o, none⟩ : Addr).add i = ⟨b, o + i, none⟩ := add_o b o i
section
variable {H : Type} {enc : TypeId × Value → H} {W : World} {base : Nat} {sp : Nat → Bool} {held : Bool} {fuel : Nat}
theorem open_bytes {cs : List Value} {x : DataW H × List MemPlace} (h : DataW.trod enc Try.prog W base sp held fuel 23 cs = some x) : ∃ p c xs, cs = [.slice p xs.length c] ∧ BF [] W p xs ∧ BR xs ∧ xs.length ≤ Rows.uptoBulk x.1 := by
  rcases open_ints bs_under u8_under (by kernel_rfl) h with ⟨rfl, rfl⟩ | ⟨a, len, cap, zs, rfl, _, hl, _, hz, rfl, hc, hwf⟩
  · exact ⟨none, 0, [], rfl, fun h => absurd h (by simp), br_nil, Nat.zero_le _⟩
  · have hlz : len ≤ zs.length := by rw [hz]; split <;> omega
    have hl2 : (zs.take len).length = len := by simp; omega
    refine ⟨some a, cap, zs.take len, by rw [hl2], fun hm => ?_, fun y hy => ?_, ?_⟩
    · rw [hl2] at hm
      have h0 := hc 0 (by omega)
      have hs : a.spot = none := by simpa [Addr.add] using World.cell?_spot h0
      obtain ⟨b, o, s⟩ := a
      obtain rfl : s = none := hs
      refine ⟨b, o, rfl, by have := cell_lt h0; rwa [add_sp] at this, by simp, fun j hj => ?_⟩
      rw [hl2] at hj
      have := hc j (by omega)
      rw [add_sp] at this
      rw [this]
      simp [List.getD_eq_getElem?_getD, hj]
    · have := hwf y (List.mem_of_mem_take hy)
      simp [Lit.wf, IntKind.min, IntKind.max, IntKind.signed, IntKind.bits] at this
      omega
    · have := (bk_slice (H := H) (lits .u8 (zs.take len)) (lits .u8 (zs.drop len))).1
      simpa [lits] using this
theorem flat2 (V0 V1 : Nat → Int) (n : Nat) : ∃ ds : List Int, ds.length = 2 * n ∧ ∀ i, i < n → ds.getD (i * 2) 0 = V0 i ∧ ds.getD (i * 2 + 1) 0 = V1 i := by
  refine ⟨(List.range (2 * n)).map fun j => if j % 2 = 0 then V0 (j / 2) else V1 (j / 2), by simp, fun i hi => ⟨?_, ?_⟩⟩
  · have h : i * 2 < 2 * n := by omega
    simp [List.getD_eq_getElem?_getD, h]
  · have h : i * 2 + 1 < 2 * n := by omega
    have h2 : (i * 2 + 1) % 2 = 1 := by omega
    have h3 : (i * 2 + 1) / 2 = i := by omega
    simp [List.getD_eq_getElem?_getD, h, h2, h3]
theorem open_dots {cs : List Value} {x : DataW H × List MemPlace} (h : DataW.trod enc Try.prog W base sp held fuel 22 cs = some x) : ∃ p n c ds, cs = [.slice p n c] ∧ DF [] W p n ds ∧ n ≤ Rows.uptoBulk x.1 := by
  rcases Deep.open_slice_pairs Try.underlying22 Try.underlying86 (by kernel_rfl) rfl rfl (by kernel_rfl) (by kernel_rfl) h with ⟨rfl, rfl⟩ | ⟨a, len, cap, m, n, V0, V1, D0, D1, P0, P1, rfl, _, hl, _, hm, rfl, hc⟩
  · exact ⟨none, 0, 0, [], rfl, ⟨rfl, fun h => by omega⟩, by simp⟩
  · have hlm : len ≤ m := by rw [hm]; split <;> omega
    have h0 : ∀ i, i < len → ∃ z, V0 i = .int .i64 z := fun i hi => by
      obtain ⟨_, _, h3, _⟩ := hc i (by omega)
      obtain ⟨z, hz, _⟩ := DataW.trod_int int_under h3
      exact ⟨z, by simpa using hz⟩
    have h1 : ∀ i, i < len → ∃ z, V1 i = .int .i64 z := fun i hi => by
      obtain ⟨_, _, _, h4⟩ := hc i (by omega)
      obtain ⟨z, hz, _⟩ := DataW.trod_int int_under h4
      exact ⟨z, by simpa using hz⟩
    obtain ⟨Z0, hZ0⟩ := Deep.choose_lt h0
    obtain ⟨Z1, hZ1⟩ := Deep.choose_lt h1
    obtain ⟨ds, hd, hds⟩ := flat2 Z0 Z1 len
    refine ⟨some a, len, cap, ds, rfl, ⟨hd, fun hm2 => ?_⟩, ?_⟩
    · have hc0 := (hc 0 (by omega)).1
      have hs : a.spot = none := by simpa [Addr.add] using World.cell?_spot hc0
      obtain ⟨b, o, s⟩ := a
      obtain rfl : s = none := hs
      refine ⟨b, o, rfl, by have := cell_lt hc0; rwa [add_sp] at this, by simp, fun j hj => ?_⟩
      have hq := hc (j / 2) (by omega)
      have hd2 := hds (j / 2) (by omega)
      rcases Nat.mod_two_eq_zero_or_one j with hm3 | hm3
      · have e : j / 2 * 2 = j := by omega
        have h5 := hq.1
        rw [add_sp, e, hZ0 _ (by omega)] at h5
        rw [e] at hd2
        rw [h5, ← hd2.1]
      · have e : j / 2 * 2 + 1 = j := by omega
        have h5 := hq.2.1
        rw [add_sp, e, hZ1 _ (by omega)] at h5
        rw [e] at hd2
        rw [h5, ← hd2.2]
    · refine Nat.le_trans (Nat.le_of_eq ?_) (bk_slice _ _).1
      simp
theorem list7 {cs : List Value} (h : cs.length = 7) : ∃ a b c e f g i, cs = [a, b, c, e, f, g, i] := by
  match cs, h with
  | [a, b, c, e, f, g, i], _ => exact ⟨a, b, c, e, f, g, i, rfl⟩
set_option maxRecDepth 20000 in
theorem open_rec {cs : List Value} {x : DataW H × List MemPlace} (h : DataW.trod enc Try.prog W base sp held fuel 25 cs = some x) :
    ∃ (r : RecD) (v : Value), cs = cellsV v ∧ RecF [] W v r ∧ (BR r.vs ∧ BR r.ss) ∧ r.k.size + r.vs.length + r.ss.length + r.n ≤ 4 * Rows.uptoBulk x.1 := by
  obtain ⟨xs, n, _, rfl, hl, hx, hfl⟩ := DataW.trod_struct Try.underlying25 h
  have hN : Try.prog.cellsOf 25 = 7 := by kernel_rfl
  rw [hN] at hl
  obtain ⟨a, b, c, e, f, g, i, rfl⟩ := list7 hl
  have hget : ∀ i, i < 7 → ∃ y, xs[i]? = some y := fun i hi => ⟨xs[i]'(by rw [hx]; exact hi), List.getElem?_eq_getElem _⟩
  have hbk : ∀ (i : Nat) (y : DataW H × List MemPlace), xs[i]? = some y → Rows.uptoBulk y.1 ≤ Rows.uptoBulk (DataW.agg (xs.map (·.1))) := fun i y h => by
    have := bk_part (l := xs.map (·.1)) (List.mem_map.2 ⟨y, List.mem_of_getElem? h, rfl⟩)
    simp only [Rows.uptoBulk]
    omega
  obtain ⟨y0, e0⟩ := hget 0 (by decide)
  obtain ⟨y1, e1⟩ := hget 1 (by decide)
  obtain ⟨y2, e2⟩ := hget 2 (by decide)
  obtain ⟨y3, e3⟩ := hget 3 (by decide)
  obtain ⟨y4, e4⟩ := hget 4 (by decide)
  obtain ⟨y5, e5⟩ := hget 5 (by decide)
  obtain ⟨y6, e6⟩ := hget 6 (by decide)
  have t0 : DataW.trod enc Try.prog W base sp held n 9 (List.take (Try.prog.cellsOf 9) (List.drop 0 [a, b, c, e, f, g, i])) = some y0 := (hfl 0 _ rfl).trans e0
  rw [show Try.prog.cellsOf 9 = 1 by kernel_rfl] at t0
  change DataW.trod enc Try.prog W base sp held n 9 [a] = some y0 at t0
  have t1 : DataW.trod enc Try.prog W base sp held n 3 (List.take (Try.prog.cellsOf 3) (List.drop 1 [a, b, c, e, f, g, i])) = some y1 := (hfl 1 _ rfl).trans e1
  rw [show Try.prog.cellsOf 3 = 1 by kernel_rfl] at t1
  change DataW.trod enc Try.prog W base sp held n 3 [b] = some y1 at t1
  have t2 : DataW.trod enc Try.prog W base sp held n 3 (List.take (Try.prog.cellsOf 3) (List.drop 2 [a, b, c, e, f, g, i])) = some y2 := (hfl 2 _ rfl).trans e2
  rw [show Try.prog.cellsOf 3 = 1 by kernel_rfl] at t2
  change DataW.trod enc Try.prog W base sp held n 3 [c] = some y2 at t2
  have t3 : DataW.trod enc Try.prog W base sp held n 22 (List.take (Try.prog.cellsOf 22) (List.drop 3 [a, b, c, e, f, g, i])) = some y3 := (hfl 3 _ rfl).trans e3
  rw [show Try.prog.cellsOf 22 = 1 by kernel_rfl] at t3
  change DataW.trod enc Try.prog W base sp held n 22 [e] = some y3 at t3
  have t4 : DataW.trod enc Try.prog W base sp held n 4 (List.take (Try.prog.cellsOf 4) (List.drop 4 [a, b, c, e, f, g, i])) = some y4 := (hfl 4 _ rfl).trans e4
  rw [show Try.prog.cellsOf 4 = 1 by kernel_rfl] at t4
  change DataW.trod enc Try.prog W base sp held n 4 [f] = some y4 at t4
  have t5 : DataW.trod enc Try.prog W base sp held n 23 (List.take (Try.prog.cellsOf 23) (List.drop 5 [a, b, c, e, f, g, i])) = some y5 := (hfl 5 _ rfl).trans e5
  rw [show Try.prog.cellsOf 23 = 1 by kernel_rfl] at t5
  change DataW.trod enc Try.prog W base sp held n 23 [g] = some y5 at t5
  have t6 : DataW.trod enc Try.prog W base sp held n 23 (List.take (Try.prog.cellsOf 23) (List.drop 6 [a, b, c, e, f, g, i])) = some y6 := (hfl 6 _ rfl).trans e6
  rw [show Try.prog.cellsOf 23 = 1 by kernel_rfl] at t6
  change DataW.trod enc Try.prog W base sp held n 23 [i] = some y6 at t6
  obtain ⟨k, hk, hky, _⟩ := DataW.trod_string str_under t0
  obtain ⟨cl, hcl, _⟩ := DataW.trod_int int_under t1
  obtain ⟨sq, hsq, _⟩ := DataW.trod_int int_under t2
  obtain ⟨p1, n1, c1, ds, hd, hD, b3⟩ := open_dots t3
  obtain ⟨gone, hg, _⟩ := DataW.trod_bool (by kernel_rfl) t4
  obtain ⟨p2, c2, vs, hv, hV, hVb, b5⟩ := open_bytes t5
  obtain ⟨p3, c3', ss, hs, hS, hSb, b6⟩ := open_bytes t6
  simp only [List.cons.injEq, and_true] at hk hcl hsq hd hg hv hs
  subst hk hcl hsq hd hg hv hs
  have q0 := hbk 0 y0 e0
  have q3 := hbk 3 y3 e3
  have q5 := hbk 5 y5 e5
  have q6 := hbk 6 y6 e6
  rw [hky] at q0
  simp only [Rows.uptoBulk] at q0
  have hks : k.data.toList.length = k.size := by rw [Array.length_toList]; rfl
  rw [hks] at q0
  have hagg : Rows.uptoBulk (DataW.agg (xs.map (·.1))) = Rows.uptoBulkAll (xs.map (·.1)) + 1 := by simp only [Rows.uptoBulk]
  refine ⟨⟨k, cl, sq, n1, ds, gone, vs, ss⟩, recV ⟨k, cl, sq, n1, ds, gone, vs, ss⟩ p1 c1 p2 c2 p3 c3', rfl, ⟨p1, c1, p2, c2, p3, c3', rfl, hD, hV, hS⟩, ⟨hVb, hSb⟩, ?_⟩
  show k.size + vs.length + ss.length + n1 ≤ 4 * Rows.uptoBulk (DataW.agg (xs.map (·.1)))
  omega
theorem open_recs {cs : List Value} {x : DataW H × List MemPlace} (h : DataW.trod enc Try.prog W base sp held fuel 29 cs = some x) :
    ∃ p c, ∃ L : List RecD, cs = [.slice p L.length c] ∧ RecsF [] W p L ∧ L.length ≤ Rows.uptoBulk x.1 ∧ ∀ r, r ∈ L → (BR r.vs ∧ BR r.ss) ∧ r.k.size + r.vs.length + r.ss.length + r.n ≤ 4 * Rows.uptoBulk x.1 := by
  have hN : Try.prog.cellsOf 25 = 7 := by kernel_rfl
  rcases Deep.open_slice recs_under h with ⟨rfl, rfl⟩ | ⟨a, len, cap, m, n, D, Pl, rfl, _, hl, _, hm, rfl, hc⟩
  · exact ⟨none, 0, [], rfl, fun h => absurd h (by simp), by simp, fun r h => by cases h⟩
  · have hlm : len ≤ m := by rw [hm]; split <;> omega
    rw [hN] at hc
    haveI : Inhabited RecD := ⟨⟨⟨#[]⟩, 0, 0, 0, [], false, [], []⟩⟩
    have hch : ∀ i, i < len → ∃ r : RecD, ∃ (v : Value) (cs' : List Value), W.cells? base (a.add (i * 7)) 7 = some cs' ∧ cs' = cellsV v ∧ RecF [] W v r ∧ (BR r.vs ∧ BR r.ss) ∧ r.k.size + r.vs.length + r.ss.length + r.n ≤ 4 * Rows.uptoBulk (D i) := fun i hi => by
      obtain ⟨cs', q1, q2⟩ := hc i (by omega)
      obtain ⟨r, v, e, hF, hb, hk⟩ := open_rec q2
      exact ⟨r, v, cs', q1, e, hF, hb, hk⟩
    obtain ⟨G, hG⟩ := Deep.choose_lt hch
    have hbk : ∀ i, i < len → Rows.uptoBulk (D i) ≤ Rows.uptoBulk (DataW.slice ((List.range len).map D) ((List.range (m - len)).map fun j => D (len + j))) := fun i hi =>
      Nat.le_trans (bk_part (List.mem_map.2 ⟨i, List.mem_range.2 hi, rfl⟩)) (bk_slice _ _).2
    have hgl : ((List.range len).map G).length = len := by simp
    refine ⟨some a, cap, (List.range len).map G, by rw [hgl], fun hm2 => ?_, ?_, fun r hr => ?_⟩
    · rw [hgl] at hm2
      obtain ⟨v0, cs0, q1, q2, -⟩ := hG 0 hm2
      obtain ⟨_, hcl, hcc⟩ := World.cells?_some q1
      have h0 := hcc 0 (by decide)
      rw [List.getElem?_eq_getElem (by rw [hcl]; decide)] at h0
      have hs : a.spot = none := by simpa [Addr.add] using World.cell?_spot h0
      obtain ⟨b, o, s⟩ := a
      obtain rfl : s = none := hs
      refine ⟨b, o, rfl, by have := cell_lt h0; rwa [add_sp, add_sp] at this, by simp, fun i r hr => ?_⟩
      have hi : i < len := by have := (List.getElem?_eq_some_iff.1 hr).1; rwa [hgl] at this
      have hr2 : r = G i := by simp [hi] at hr; exact hr.symm
      subst hr2
      obtain ⟨v, cs', k1, k2, k3, -⟩ := hG i hi
      refine ⟨v, k3, fun j u hu => ?_⟩
      obtain ⟨_, hcl', hcc'⟩ := World.cells?_some k1
      have hj : j < 7 := by rw [← hcl', k2]; exact (List.getElem?_eq_some_iff.1 hu).1
      have := hcc' j hj
      rw [add_sp, add_sp, k2, hu] at this
      exact this
    · have := (bk_slice ((List.range len).map D) ((List.range (m - len)).map fun j => D (len + j))).1
      simpa using this
    · obtain ⟨i, hi, rfl⟩ := List.mem_map.1 hr
      have hi2 := List.mem_range.1 hi
      obtain ⟨v, cs', k1, k2, k3, k4, k5⟩ := hG i hi2
      exact ⟨k4, Nat.le_trans k5 (Nat.mul_le_mul_left 4 (hbk i hi2))⟩
set_option maxRecDepth 20000 in
theorem arg_recs {v : Value} {d : DataW H} {ps : List MemPlace} (hval : Value.okWide Try.prog W .any base 29 v) (h : DataW.Trod enc Try.prog W 0 sp held 29 v d ps) : ∃ p c, ∃ L : List RecD, v = .slice p L.length c ∧ RecsF [] W p L ∧ L.length ≤ Rows.uptoBulk d ∧ ∀ r, r ∈ L → (BR r.vs ∧ BR r.ss) ∧ r.k.size + r.vs.length + r.ss.length + r.n ≤ 4 * Rows.uptoBulk d := by
  obtain ⟨a, len, cap, rfl⟩ := okWide_slice recs_under hval
  obtain ⟨fuel, hf⟩ := h
  obtain ⟨p, c, L, e, h1, h2, h3⟩ := open_recs hf
  simp only [Value.cells, List.cons.injEq, Value.slice.injEq, and_true] at e
  obtain ⟨rfl, rfl, rfl⟩ := e
  exact ⟨_, _, L, rfl, h1, h2, h3⟩
theorem list5 {cs : List Value} (h : cs.length = 5) : ∃ a b c e f, cs = [a, b, c, e, f] := by
  match cs, h with
  | [a, b, c, e, f], _ => exact ⟨a, b, c, e, f, rfl⟩
set_option maxRecDepth 20000 in
theorem open_root {cs : List Value} {x : DataW H × List MemPlace} (h : DataW.trod enc Try.prog W base sp held fuel 27 cs = some x) :
    ∃ (r : RootD) (v : Value), cs = cellsV v ∧ RootF [] W v r ∧ (BR r.sum ∧ BR r.sig) ∧ r.sum.length + r.sig.length ≤ 4 * Rows.uptoBulk x.1 := by
  obtain ⟨xs, n, _, rfl, hl, hx, hfl⟩ := DataW.trod_struct Try.underlying27 h
  have hN : Try.prog.cellsOf 27 = 5 := by kernel_rfl
  rw [hN] at hl
  obtain ⟨a, b, c, e, f, rfl⟩ := list5 hl
  have hget : ∀ i, i < 5 → ∃ y, xs[i]? = some y := fun i hi => ⟨xs[i]'(by rw [hx]; exact hi), List.getElem?_eq_getElem _⟩
  have hbk : ∀ (i : Nat) (y : DataW H × List MemPlace), xs[i]? = some y → Rows.uptoBulk y.1 ≤ Rows.uptoBulk (DataW.agg (xs.map (·.1))) := fun i y h => by
    have := bk_part (l := xs.map (·.1)) (List.mem_map.2 ⟨y, List.mem_of_getElem? h, rfl⟩)
    simp only [Rows.uptoBulk]
    omega
  obtain ⟨y0, e0⟩ := hget 0 (by decide)
  obtain ⟨y1, e1⟩ := hget 1 (by decide)
  obtain ⟨y2, e2⟩ := hget 2 (by decide)
  obtain ⟨y3, e3⟩ := hget 3 (by decide)
  obtain ⟨y4, e4⟩ := hget 4 (by decide)
  have t0 : DataW.trod enc Try.prog W base sp held n 3 (List.take (Try.prog.cellsOf 3) (List.drop 0 [a, b, c, e, f])) = some y0 := (hfl 0 _ rfl).trans e0
  rw [show Try.prog.cellsOf 3 = 1 by kernel_rfl] at t0
  change DataW.trod enc Try.prog W base sp held n 3 [a] = some y0 at t0
  have t1 : DataW.trod enc Try.prog W base sp held n 3 (List.take (Try.prog.cellsOf 3) (List.drop 1 [a, b, c, e, f])) = some y1 := (hfl 1 _ rfl).trans e1
  rw [show Try.prog.cellsOf 3 = 1 by kernel_rfl] at t1
  change DataW.trod enc Try.prog W base sp held n 3 [b] = some y1 at t1
  have t2 : DataW.trod enc Try.prog W base sp held n 3 (List.take (Try.prog.cellsOf 3) (List.drop 2 [a, b, c, e, f])) = some y2 := (hfl 2 _ rfl).trans e2
  rw [show Try.prog.cellsOf 3 = 1 by kernel_rfl] at t2
  change DataW.trod enc Try.prog W base sp held n 3 [c] = some y2 at t2
  have t3 : DataW.trod enc Try.prog W base sp held n 23 (List.take (Try.prog.cellsOf 23) (List.drop 3 [a, b, c, e, f])) = some y3 := (hfl 3 _ rfl).trans e3
  rw [show Try.prog.cellsOf 23 = 1 by kernel_rfl] at t3
  change DataW.trod enc Try.prog W base sp held n 23 [e] = some y3 at t3
  have t4 : DataW.trod enc Try.prog W base sp held n 23 (List.take (Try.prog.cellsOf 23) (List.drop 4 [a, b, c, e, f])) = some y4 := (hfl 4 _ rfl).trans e4
  rw [show Try.prog.cellsOf 23 = 1 by kernel_rfl] at t4
  change DataW.trod enc Try.prog W base sp held n 23 [f] = some y4 at t4
  obtain ⟨r, hr, _⟩ := DataW.trod_int int_under t0
  obtain ⟨h', hh, _⟩ := DataW.trod_int int_under t1
  obtain ⟨q, hq, _⟩ := DataW.trod_int int_under t2
  obtain ⟨p2, c2, vs, hv, hV, hVb, b5⟩ := open_bytes t3
  obtain ⟨p3, c3', ss, hs, hS, hSb, b6⟩ := open_bytes t4
  simp only [List.cons.injEq, and_true] at hr hh hq hv hs
  subst hr hh hq hv hs
  have q5 := hbk 3 y3 e3
  have q6 := hbk 4 y4 e4
  refine ⟨⟨r, h', q, vs, ss⟩, rootV ⟨r, h', q, vs, ss⟩ p2 c2 p3 c3', rfl, ⟨p2, c2, p3, c3', rfl, hV, hS⟩, ⟨hVb, hSb⟩, ?_⟩
  show vs.length + ss.length ≤ 4 * Rows.uptoBulk (DataW.agg (xs.map (·.1)))
  omega
theorem open_roots {cs : List Value} {x : DataW H × List MemPlace} (h : DataW.trod enc Try.prog W base sp held fuel 37 cs = some x) :
    ∃ p c, ∃ L : List RootD, cs = [.slice p L.length c] ∧ RootsF [] W p L ∧ L.length ≤ Rows.uptoBulk x.1 ∧ ∀ r, r ∈ L → (BR r.sum ∧ BR r.sig) ∧ r.sum.length + r.sig.length ≤ 4 * Rows.uptoBulk x.1 := by
  have hN : Try.prog.cellsOf 27 = 5 := by kernel_rfl
  rcases Deep.open_slice roots_under h with ⟨rfl, rfl⟩ | ⟨a, len, cap, m, n, D, Pl, rfl, _, hl, _, hm, rfl, hc⟩
  · exact ⟨none, 0, [], rfl, fun h => absurd h (by simp), by simp, fun r h => by cases h⟩
  · have hlm : len ≤ m := by rw [hm]; split <;> omega
    rw [hN] at hc
    haveI : Inhabited RootD := ⟨⟨0, 0, 0, [], []⟩⟩
    have hch : ∀ i, i < len → ∃ r : RootD, ∃ (v : Value) (cs' : List Value), W.cells? base (a.add (i * 5)) 5 = some cs' ∧ cs' = cellsV v ∧ RootF [] W v r ∧ (BR r.sum ∧ BR r.sig) ∧ r.sum.length + r.sig.length ≤ 4 * Rows.uptoBulk (D i) := fun i hi => by
      obtain ⟨cs', q1, q2⟩ := hc i (by omega)
      obtain ⟨r, v, e, hF, hb, hk⟩ := open_root q2
      exact ⟨r, v, cs', q1, e, hF, hb, hk⟩
    obtain ⟨G, hG⟩ := Deep.choose_lt hch
    have hbk : ∀ i, i < len → Rows.uptoBulk (D i) ≤ Rows.uptoBulk (DataW.slice ((List.range len).map D) ((List.range (m - len)).map fun j => D (len + j))) := fun i hi =>
      Nat.le_trans (bk_part (List.mem_map.2 ⟨i, List.mem_range.2 hi, rfl⟩)) (bk_slice _ _).2
    have hgl : ((List.range len).map G).length = len := by simp
    refine ⟨some a, cap, (List.range len).map G, by rw [hgl], fun hm2 => ?_, ?_, fun r hr => ?_⟩
    · rw [hgl] at hm2
      obtain ⟨v0, cs0, q1, q2, -⟩ := hG 0 hm2
      obtain ⟨_, hcl, hcc⟩ := World.cells?_some q1
      have h0 := hcc 0 (by decide)
      rw [List.getElem?_eq_getElem (by rw [hcl]; decide)] at h0
      have hs : a.spot = none := by simpa [Addr.add] using World.cell?_spot h0
      obtain ⟨b, o, s⟩ := a
      obtain rfl : s = none := hs
      refine ⟨b, o, rfl, by have := cell_lt h0; rwa [add_sp, add_sp] at this, by simp, fun i r hr => ?_⟩
      have hi : i < len := by have := (List.getElem?_eq_some_iff.1 hr).1; rwa [hgl] at this
      have hr2 : r = G i := by simp [hi] at hr; exact hr.symm
      subst hr2
      obtain ⟨v, cs', k1, k2, k3, -⟩ := hG i hi
      refine ⟨v, k3, fun j u hu => ?_⟩
      obtain ⟨_, hcl', hcc'⟩ := World.cells?_some k1
      have hj : j < 5 := by rw [← hcl', k2]; exact (List.getElem?_eq_some_iff.1 hu).1
      have := hcc' j hj
      rw [add_sp, add_sp, k2, hu] at this
      exact this
    · have := (bk_slice ((List.range len).map D) ((List.range (m - len)).map fun j => D (len + j))).1
      simpa using this
    · obtain ⟨i, hi, rfl⟩ := List.mem_map.1 hr
      have hi2 := List.mem_range.1 hi
      obtain ⟨v, cs', k1, k2, k3, k4, k5⟩ := hG i hi2
      exact ⟨k4, Nat.le_trans k5 (Nat.mul_le_mul_left 4 (hbk i hi2))⟩
set_option maxRecDepth 20000 in
theorem arg_roots {v : Value} {d : DataW H} {ps : List MemPlace} (hval : Value.okWide Try.prog W .any base 37 v) (h : DataW.Trod enc Try.prog W 0 sp held 37 v d ps) : ∃ p c, ∃ L : List RootD, v = .slice p L.length c ∧ RootsF [] W p L ∧ L.length ≤ Rows.uptoBulk d ∧ ∀ r, r ∈ L → (BR r.sum ∧ BR r.sig) ∧ r.sum.length + r.sig.length ≤ 4 * Rows.uptoBulk d := by
  obtain ⟨a, len, cap, rfl⟩ := okWide_slice roots_under hval
  obtain ⟨fuel, hf⟩ := h
  obtain ⟨p, c, L, e, h1, h2, h3⟩ := open_roots hf
  simp only [Value.cells, List.cons.injEq, Value.slice.injEq, and_true] at e
  obtain ⟨rfl, rfl, rfl⟩ := e
  exact ⟨_, _, L, rfl, h1, h2, h3⟩
end
theorem own_ : ownKnob Try.prog.godebug = none := by kernel_rfl
theorem bool_under : Try.prog.underlying 4 = some .bool := by kernel_rfl
set_option maxRecDepth 100000 in
theorem ghostKeeps_lifted (os : Os) (started : os.Started) (H : Type) (enc : TypeId × Value → H) (Fi : Stop.Interp) :
    ReturnsInHanded {} Try.checked os 4 .any ((Rows.OpenSpec.upto Rows.ghostKeepsSpec).pre6 enc Try.prog Try.f4 Rows.ghostKeepsUptoRow.domain false) (((Rows.OpenSpec.upto Rows.ghostKeepsSpec).at Fi).post enc Try.prog Try.f4 false true false false) := by
  refine returnsInHanded_of_cond (C := Try.checked) (s := Rows.OpenSpec.upto Rows.ghostKeepsSpec) (k := Rows.uptoSmall) rfl own_ started (by kernel_rfl) Try.func4
    (OpenSpec.witness (enc := enc) (C := Try.checked) (s := Rows.OpenSpec.upto Rows.ghostKeepsSpec) (k := Rows.uptoSmall) rfl false ⟨#[], #[.slice none 0 0, .slice none 0 0, .slice none 0 0], []⟩ 8 (by kernel_rfl) (by kernel_rfl) (by kernel_rfl)
      (x := ([.nil, .nil, .nil], [], [])) (by kernel_rfl) rfl (by kernel_rfl)) ?_
  intro W base args ds gs before hval0 hW _ hk _
  have hval : ∀ (j : Nat) t v, Try.f4.params[j]? = some t → args[j]? = some v → Value.okWide Try.prog W .any base t v := hval0
  have hbound : Rows.uptoBulkAll (ds ++ gs) ≤ 1048576 := of_decide_eq_true hk
  have hW' := hW
  obtain ⟨p, q, hA0, hV, rfl, hfz, hnd⟩ := hW
  have hA : DataW.TrodAll enc Try.prog W 0 (fun _ => true) true Try.f4.params.toList args.toList ds p := hA0
  rw [Try.params4] at hA hval
  obtain ⟨v0, vs0, d0, ds0, p0, q0, hargs, rfl, rfl, h0, r0⟩ := trodAll_cons hA
  obtain ⟨v1, vs1, d1, ds1, p1, q1, hargs1, rfl, rfl, h1, r1⟩ := trodAll_cons r0
  obtain ⟨v2, vs2, d2, ds2, p2, q2, hargs2, rfl, rfl, h2, r2⟩ := trodAll_cons r1
  obtain ⟨rfl, rfl, rfl⟩ := trodAll_nil r2
  obtain rfl : args = #[v0, v1, v2] := by rw [hargs2] at hargs1; rw [hargs1] at hargs; exact Array.toList_inj.1 hargs
  obtain ⟨rfl, rfl⟩ := trodVars_none hV
  have hv0 := hval 0 29 v0 rfl rfl
  have hv1 := hval 1 29 v1 rfl rfl
  have hv2 := hval 2 37 v2 rfl rfl
  obtain ⟨a0, c0, L, rfl, hL, bL0, hL2⟩ := arg_recs hv0 h0
  obtain ⟨a1, c1, M, rfl, hM, bM0, hM2⟩ := arg_recs hv1 h1
  obtain ⟨a2, c2, R, rfl, hR, bR0, hR2⟩ := arg_roots hv2 h2
  simp only [List.append_nil, Rows.uptoBulkAll] at hbound
  clear hA0 hval0 hval hv0 hv1 hv2 hargs hargs1 hargs2
  simp only [List.append_nil] at hW'
  refine (ghostKeeps_c a0 a1 a2 c0 c1 c2 L M R (by omega) (by omega) (by omega) (fun r hr => ?_) (fun r hr => ?_) W hL hM hR).mono fun e W' ⟨he, hb⟩ => ?_
  · rcases List.mem_append.1 hr with hr | hr
    · obtain ⟨hb, hs⟩ := hL2 r hr
      exact ⟨by unfold recFit; omega, hb⟩
    · obtain ⟨hb, hs⟩ := hM2 r hr
      exact ⟨by unfold recFit; omega, hb⟩
  · obtain ⟨hb, hs⟩ := hR2 r hr
    exact ⟨by unfold rootFit; omega, hb⟩
  subst he
  have hlt : ∀ x ∈ p0 ++ (p1 ++ p2), x.block < W.heap.size := fun x hx => hW'.lt x hx
  exact ⟨_, rfl, post_of_below (pa := p0 ++ (p1 ++ p2)) (pv := []) hW' (fun _ _ _ => trodAll_mk1 (shut_bool bool_under true))
    (fun sp hsp => ⟨p0, p1 ++ p2, WideElems.Trod_stays (by kernel_rfl) (by kernel_rfl) (of_decide_eq_true (by kernel_rfl)) h0 (fun x hx => hb.same (hlt x (by simp [hx]))) (fun x hx => hsp x (by simp [hx])),
      ⟨p1, p2, WideElems.Trod_stays (by kernel_rfl) (by kernel_rfl) (of_decide_eq_true (by kernel_rfl)) h1 (fun x hx => hb.same (hlt x (by simp [hx]))) (fun x hx => hsp x (by simp [hx])),
        ⟨p2, [], WideElems.Trod_stays (by kernel_rfl) (by kernel_rfl) (of_decide_eq_true (by kernel_rfl)) h2 (fun x hx => hb.same (hlt x (by simp [hx]))) (fun x hx => hsp x (by simp [hx])), rfl, by simp⟩, rfl⟩, rfl⟩)
    (fun _ _ => rfl) (by simp) hb
    (ok_one (by kernel_rfl) rfl (okWide_bool_mk bool_under true))⟩

theorem ghostKeeps_holds : Rows.GhostKeepsUptoSaid :=
  OpenClaim.holds_of_cond 4 Try.f4 rfl rfl rfl rfl rfl rfl rfl ⟨rfl, rfl, rfl, rfl, rfl⟩ rfl rfl rfl rfl rfl (by kernel_rfl) Try.func4 (by kernel_rfl)
    (of_decide_eq_true (by kernel_rfl)) (by unfold Func.isWrapper; rw [if_neg (by decide +kernel)]; exact ⟨rfl, rfl⟩)
    (fun os started H enc _ Fi => ghostKeeps_lifted os started H enc Fi)
end Go.Proofs.Ytdgaoljobpneaaa
