/- A ghost's books: what put leaves. -/
import Derived.Test.YtdgaoljobpneaaaHh
namespace Go.Proofs.Ytdgaoljobpneaaa
open Go.RowKit
theorem ghost_ne_map {H : Type} {w : World} {g m n : Nat} {t : TypeId} {cs : Array Value} {k : TypeId} {R : Value → Option (DataW H × List MemPlace)} {D : DataW H} (h : Blk w g t cs) (hm : w.ownsMap Try.prog k R m n D) : g ≠ m := by
  obtain ⟨es, clock, h1, _⟩ := hm
  intro e
  subst e
  rw [show w.heap[g]? = _ from h] at h1
  cases h1
theorem map_ne_row {H : Type} {w : World} {m n B size n2 : Nat} {e k : TypeId} {v : Value} {xs : List Value} {R : Value → Option (DataW H × List MemPlace)} {D : DataW H} (hm : w.ownsMap Try.prog k R m n D) (h : w.ownsRow B e size v n2 xs) : v.ownBlock ≠ some m := by
  intro h0
  rcases h.2 with ⟨rfl, _⟩ | ⟨g, cap, cur, rfl, h1, h2, _⟩
  · cases h0
  · obtain rfl : g = m := Option.some.inj h0
    obtain ⟨es, clock, h3, _⟩ := hm
    rw [h2] at h3
    cases h3
theorem blk_ne_row {w : World} {g B size n2 : Nat} {t e : TypeId} {cs : Array Value} {v : Value} {xs : List Value} (h : Blk w g t cs) (hr : w.ownsRow B e size v n2 xs) (hne : t ≠ e) : v.ownBlock ≠ some g := by
  intro h0
  rcases hr.2 with ⟨rfl, _⟩ | ⟨g', cap, cur, rfl, h1, h2, _⟩
  · cases h0
  · obtain rfl : g' = g := Option.some.inj h0
    rw [show w.heap[g']? = _ from h] at h2
    injection h2 with h2
    injection h2 with _ h2
    exact hne h2
theorem row_ne_row {w : World} {B B' size size' n n' : Nat} {e e' : TypeId} {v v' : Value} {xs xs' : List Value} (h : w.ownsRow B e size v n xs) (h' : w.ownsRow B' e' size' v' n' xs') (hne : e ≠ e') : ∀ g, v.ownBlock = some g → v'.ownBlock ≠ some g := by
  intro g h0 h0'
  rcases h.2 with ⟨rfl, _⟩ | ⟨g1, cap, cur, rfl, _, h2, _⟩
  · cases h0
  · rcases h'.2 with ⟨rfl, _⟩ | ⟨g2, cap', cur', rfl, _, h2', _⟩
    · cases h0'
    · obtain rfl : g1 = g := Option.some.inj h0
      obtain rfl : g2 = g1 := Option.some.inj h0'
      rw [h2] at h2'
      injection h2' with h2'
      injection h2' with _ h2'
      exact hne h2'
def obv (v : Value) : List Nat := match v.ownBlock with | some g => [g] | none => []
theorem mem_obv {v : Value} {g : Nat} : g ∈ obv v ↔ v.ownBlock = some g := by
  unfold obv
  split
  · rename_i h; rw [h]; simp [eq_comm]
  · rename_i h; rw [h]; simp
theorem has_snoc {α : Type} (T : α → List Int) (L : List α) (x : α) (t : List Int) : hasT T (L ++ [x]) t = (hasT T L t || decide (T x = t)) := by simp [hasT]
theorem own_lt {w : World} {B size n : Nat} {e : TypeId} {v : Value} {xs : List Value} (h : w.ownsRow B e size v n xs) : ∀ g, v.ownBlock = some g → B ≤ g ∧ g < w.heap.size := h.lt
theorem gs_putRec {B gb : Nat} {S : List Nat} {L : List RecD} {M : List RootD} {wr w8 : World} {l1 l2 v v48 : Value} {m1 m2 B0 : Nat} {vs : List Value} {bls : List (List Nat)} {D : DataW Unit} {r : RecD} {bl : List Nat} {X : List Int} {d : DataW Unit}
    (hB : B ≤ wr.heap.size) (g1 : Blk wr gb 45 (ghC l1 m1 l2 m2)) (g2 : gb ∈ S) (g3 : ∀ g, g ∈ S → B ≤ g ∧ g < wr.heap.size) (g4 : m1 ≠ m2) (g6 : BookT B wr S l2 m2 M)
    (a1 : wr.ownsRow B 25 7 l1 L.length (vs.flatMap cellsV)) (a2 : RowsO RecO B wr vs L bls) (a3 : ∀ g, g ∈ bls.flatten → g ∉ S) (a4 : ∀ g, l1.ownBlock = some g → g ∈ S) (a5 : wr.ownsMap (H := Unit) Try.prog 9 (plainElem Try.prog 3) m1 L.length D) (a6 : m1 ∈ S) (a7 : ∀ xs, BR xs → Maps.has D (klit xs) = hasT recT L xs) (a8 : ∀ r, r ∈ L → r.ok ∧ recT r ≠ [])
    (hK : Kept ([m1, gb] ++ obv l1) wr w8) (hG : Blk w8 gb 45 (ghC v m1 l2 m2)) (hown : w8.ownsRow B 25 7 v (L.length + 1) (vs.flatMap cellsV ++ cellsV v48)) (hmap : w8.ownsMap (H := Unit) Try.prog 9 (plainElem Try.prog 3) m1 (L.length + 1) (D.put (klit X) d))
    (hro : RecO B0 w8 v48 r bl) (hB0 : wr.heap.size ≤ B0) (hloc : ∀ g, v.ownBlock = some g → l1.ownBlock = some g ∨ (wr.heap.size ≤ g ∧ g ∉ bl)) (hr : r.ok) (hX : X = recT r) (hX0 : X ≠ []) (hlen : X.length ≤ 2000000) : ∃ S2, GS B w8 S2 gb (L ++ [r]) M ∧ Ext S wr S2 w8 := by
  have hne1 := ghost_ne_map g1 a5
  have hrow := blk_ne_row g1 a1 (by decide)
  have hmr := map_ne_row a5 a1
  obtain ⟨vs2, bls2, D2, b1, b2, b3, b4, b5, b6, b7, b8⟩ := id g6
  have hne2 := ghost_ne_map g1 b5
  have hrow2 := blk_ne_row g1 b1 (by decide)
  have hmr2 := map_ne_row b5 a1
  have hmr3 := map_ne_row a5 b1
  have hrr := row_ne_row b1 a1 (by decide)
  have hC : ∀ g, g ∈ [m1, gb] ++ obv l1 → g ∈ S ∨ wr.heap.size ≤ g := fun g hg => by
    simp only [List.mem_append, List.mem_cons, List.not_mem_nil, or_false, mem_obv] at hg
    rcases hg with (rfl | rfl) | hg
    · exact .inl a6
    · exact .inl g2
    · exact .inl (a4 g hg)
  have hS2 : ∀ g, g ∈ obv v ++ S → g ∈ S ∨ wr.heap.size ≤ g := fun g hg => by
    simp only [List.mem_append, mem_obv] at hg
    rcases hg with hg | hg
    · rcases hloc g hg with h | h
      · exact .inl (a4 g h)
      · exact .inr h.1
    · exact .inl hg
  have hS3 : ∀ g, g ∈ S → g ∈ obv v ++ S := fun g hg => List.mem_append_right _ hg
  have hbr : BR X := by rw [hX]; exact br_rec hr
  refine ⟨obv v ++ S, ⟨v, m1, l2, m2, hG, hS3 _ g2, fun g hg => ?_, g4, ?_, ?_⟩, hK.ext hC hS2⟩
  · rcases List.mem_append.1 hg with hg | hg
    · exact own_lt hown g (mem_obv.1 hg)
    · exact ⟨(g3 g hg).1, Nat.lt_of_lt_of_le (g3 g hg).2 hK.size⟩
  · have hl1 : vs.length = L.length := a2.1
    have hl2 : bls.length = L.length := a2.2.1
    have hbl : ∀ (i : Nat) (bl : List Nat), bls[i]? = some bl → ∀ g, g ∈ bl → g ∈ bls.flatten := fun i bl hi g hg => List.mem_flatten.2 ⟨bl, List.mem_of_getElem? hi, hg⟩
    refine ⟨vs ++ [v48], bls ++ [bl], D.put (klit X) d, ?_, ⟨by simp [hl1], by simp [hl2], fun i v' r' bl' e1 e2 e3 => ?_⟩, fun g hg hs => ?_, fun g hg => List.mem_append_left _ (mem_obv.2 hg), ?_, hS3 _ a6, fun xs hxs => ?_, fun r' hr' => ?_⟩
    · simpa using hown
    · rcases Nat.lt_or_ge i L.length with h | h
      · rw [List.getElem?_append_left (by omega)] at e1 e2 e3
        exact (a2.2.2 i v' r' bl' e1 e2 e3).ext (hK.ext hC hS2) (fun g hg => a3 g (hbl i bl' e3 g hg))
      · have hi : i = L.length := by
          have := (List.getElem?_eq_some_iff.1 e2).1
          simp at this
          omega
        subst hi
        rw [List.getElem?_append_right (by omega)] at e1 e2 e3
        simp only [hl1, hl2, Nat.sub_self, List.getElem?_cons_zero, Option.some.injEq] at e1 e2 e3
        subst e1 e2 e3
        exact hro.mono (Nat.le_trans hB hB0)
    · rw [List.flatten_append, List.mem_append] at hg
      rcases hg with hg | hg
      · rcases hS2 g hs with h3 | h3
        · exact a3 g hg h3
        · obtain ⟨bl', hbl2, hg2⟩ := List.mem_flatten.1 hg
          obtain ⟨i, hi⟩ := List.mem_iff_getElem?.1 hbl2
          have hil : i < L.length := by rw [← hl2]; exact (List.getElem?_eq_some_iff.1 hi).1
          have := ((a2.2.2 i _ _ bl' (List.getElem?_eq_getElem (by omega)) (List.getElem?_eq_getElem hil) hi).range g hg2).2
          omega
      · have hg2 : g ∈ bl := by simpa using hg
        have h5 := (hro.range g hg2).1
        rcases List.mem_append.1 hs with hs | hs
        · rcases hloc g (mem_obv.1 hs) with h | h
          · have := (g3 g (a4 g h)).2
            omega
          · exact h.2 hg2
        · have := (g3 g hs).2
          omega
    · simpa using hmap
    · rw [has_snoc, ← hX]
      by_cases e : X = xs
      · subst e
        rw [Maps.has_put_same (Maps.Tidy.isMap (a5.tidy law)) (law.key (klit_key X hlen)) d, decide_eq_true rfl, Bool.or_true]
      · rw [Maps.has_put_other (fun h => e (klit_inj hxs hbr h).symm) d, a7 xs hxs, decide_eq_false e, Bool.or_false]
    · rcases List.mem_append.1 hr' with h | h
      · exact a8 r' h
      · obtain rfl : r' = r := by simpa using h
        exact ⟨hr, by rw [← hX]; exact hX0⟩
  · refine Book.kept (root_hO B) (root_lt B) g6 hK hC (fun g hg hc => ?_) (fun hc => ?_) hS2 hS3
    · simp only [List.mem_append, List.mem_cons, List.not_mem_nil, or_false, mem_obv] at hc
      rcases hc with (rfl | rfl) | hc
      · exact hmr3 hg
      · exact hrow2 hg
      · exact hrr g hg hc
    · simp only [List.mem_append, List.mem_cons, List.not_mem_nil, or_false, mem_obv] at hc
      rcases hc with (h | h) | hc
      · exact g4 h.symm
      · exact hne2 h.symm
      · exact hmr2 hc
theorem gs_putRoot {B gb : Nat} {S : List Nat} {L : List RecD} {M : List RootD} {wr w8 : World} {l1 l2 v v48 : Value} {m1 m2 B0 : Nat} {vs : List Value} {bls : List (List Nat)} {D : DataW Unit} {r : RootD} {bl : List Nat} {X : List Int} {d : DataW Unit}
    (hB : B ≤ wr.heap.size) (g1 : Blk wr gb 45 (ghC l1 m1 l2 m2)) (g2 : gb ∈ S) (g3 : ∀ g, g ∈ S → B ≤ g ∧ g < wr.heap.size) (g4 : m1 ≠ m2) (g5 : BookR B wr S l1 m1 L)
    (a1 : wr.ownsRow B 27 5 l2 M.length (vs.flatMap cellsV)) (a2 : RowsO RootO B wr vs M bls) (a3 : ∀ g, g ∈ bls.flatten → g ∉ S) (a4 : ∀ g, l2.ownBlock = some g → g ∈ S) (a5 : wr.ownsMap (H := Unit) Try.prog 9 (plainElem Try.prog 3) m2 M.length D) (a6 : m2 ∈ S) (a7 : ∀ xs, BR xs → Maps.has D (klit xs) = hasT rootT M xs) (a8 : ∀ r, r ∈ M → r.ok ∧ rootT r ≠ [])
    (hK : Kept ([m2, gb] ++ obv l2) wr w8) (hG : Blk w8 gb 45 (ghC l1 m1 v m2)) (hown : w8.ownsRow B 27 5 v (M.length + 1) (vs.flatMap cellsV ++ cellsV v48)) (hmap : w8.ownsMap (H := Unit) Try.prog 9 (plainElem Try.prog 3) m2 (M.length + 1) (D.put (klit X) d))
    (hro : RootO B0 w8 v48 r bl) (hB0 : wr.heap.size ≤ B0) (hloc : ∀ g, v.ownBlock = some g → l2.ownBlock = some g ∨ (wr.heap.size ≤ g ∧ g ∉ bl)) (hr : r.ok) (hX : X = rootT r) (hX0 : X ≠ []) (hlen : X.length ≤ 2000000) : ∃ S2, GS B w8 S2 gb L (M ++ [r]) ∧ Ext S wr S2 w8 := by
  have hne1 := ghost_ne_map g1 a5
  have hrow := blk_ne_row g1 a1 (by decide)
  have hmr := map_ne_row a5 a1
  obtain ⟨vs2, bls2, D2, b1, b2, b3, b4, b5, b6, b7, b8⟩ := id g5
  have hne2 := ghost_ne_map g1 b5
  have hrow2 := blk_ne_row g1 b1 (by decide)
  have hmr2 := map_ne_row b5 a1
  have hmr3 := map_ne_row a5 b1
  have hrr := row_ne_row b1 a1 (by decide)
  have hC : ∀ g, g ∈ [m2, gb] ++ obv l2 → g ∈ S ∨ wr.heap.size ≤ g := fun g hg => by
    simp only [List.mem_append, List.mem_cons, List.not_mem_nil, or_false, mem_obv] at hg
    rcases hg with (rfl | rfl) | hg
    · exact .inl a6
    · exact .inl g2
    · exact .inl (a4 g hg)
  have hS2 : ∀ g, g ∈ obv v ++ S → g ∈ S ∨ wr.heap.size ≤ g := fun g hg => by
    simp only [List.mem_append, mem_obv] at hg
    rcases hg with hg | hg
    · rcases hloc g hg with h | h
      · exact .inl (a4 g h)
      · exact .inr h.1
    · exact .inl hg
  have hS3 : ∀ g, g ∈ S → g ∈ obv v ++ S := fun g hg => List.mem_append_right _ hg
  have hbr : BR X := by rw [hX]; exact br_root hr
  refine ⟨obv v ++ S, ⟨l1, m1, v, m2, hG, hS3 _ g2, fun g hg => ?_, g4, ?_, ?_⟩, hK.ext hC hS2⟩
  · rcases List.mem_append.1 hg with hg | hg
    · exact own_lt hown g (mem_obv.1 hg)
    · exact ⟨(g3 g hg).1, Nat.lt_of_lt_of_le (g3 g hg).2 hK.size⟩
  · refine Book.kept (rec_hO B) (rec_lt B) g5 hK hC (fun g hg hc => ?_) (fun hc => ?_) hS2 hS3
    · simp only [List.mem_append, List.mem_cons, List.not_mem_nil, or_false, mem_obv] at hc
      rcases hc with (rfl | rfl) | hc
      · exact hmr3 hg
      · exact hrow2 hg
      · exact hrr g hg hc
    · simp only [List.mem_append, List.mem_cons, List.not_mem_nil, or_false, mem_obv] at hc
      rcases hc with (h | h) | hc
      · exact g4 h
      · exact hne2 h.symm
      · exact hmr2 hc
  · have hl1 : vs.length = M.length := a2.1
    have hl2 : bls.length = M.length := a2.2.1
    have hbl : ∀ (i : Nat) (bl : List Nat), bls[i]? = some bl → ∀ g, g ∈ bl → g ∈ bls.flatten := fun i bl hi g hg => List.mem_flatten.2 ⟨bl, List.mem_of_getElem? hi, hg⟩
    refine ⟨vs ++ [v48], bls ++ [bl], D.put (klit X) d, ?_, ⟨by simp [hl1], by simp [hl2], fun i v' r' bl' e1 e2 e3 => ?_⟩, fun g hg hs => ?_, fun g hg => List.mem_append_left _ (mem_obv.2 hg), ?_, hS3 _ a6, fun xs hxs => ?_, fun r' hr' => ?_⟩
    · simpa using hown
    · rcases Nat.lt_or_ge i M.length with h | h
      · rw [List.getElem?_append_left (by omega)] at e1 e2 e3
        exact (a2.2.2 i v' r' bl' e1 e2 e3).ext (hK.ext hC hS2) (fun g hg => a3 g (hbl i bl' e3 g hg))
      · have hi : i = M.length := by
          have := (List.getElem?_eq_some_iff.1 e2).1
          simp at this
          omega
        subst hi
        rw [List.getElem?_append_right (by omega)] at e1 e2 e3
        simp only [hl1, hl2, Nat.sub_self, List.getElem?_cons_zero, Option.some.injEq] at e1 e2 e3
        subst e1 e2 e3
        exact hro.mono (Nat.le_trans hB hB0)
    · rw [List.flatten_append, List.mem_append] at hg
      rcases hg with hg | hg
      · rcases hS2 g hs with h3 | h3
        · exact a3 g hg h3
        · obtain ⟨bl', hbl2, hg2⟩ := List.mem_flatten.1 hg
          obtain ⟨i, hi⟩ := List.mem_iff_getElem?.1 hbl2
          have hil : i < M.length := by rw [← hl2]; exact (List.getElem?_eq_some_iff.1 hi).1
          have := ((a2.2.2 i _ _ bl' (List.getElem?_eq_getElem (by omega)) (List.getElem?_eq_getElem hil) hi).range g hg2).2
          omega
      · have hg2 : g ∈ bl := by simpa using hg
        have h5 := (hro.range g hg2).1
        rcases List.mem_append.1 hs with hs | hs
        · rcases hloc g (mem_obv.1 hs) with h | h
          · have := (g3 g (a4 g h)).2
            omega
          · exact h.2 hg2
        · have := (g3 g hs).2
          omega
    · simpa using hmap
    · rw [has_snoc, ← hX]
      by_cases e : X = xs
      · subst e
        rw [Maps.has_put_same (Maps.Tidy.isMap (a5.tidy law)) (law.key (klit_key X hlen)) d, decide_eq_true rfl, Bool.or_true]
      · rw [Maps.has_put_other (fun h => e (klit_inj hxs hbr h).symm) d, a7 xs hxs, decide_eq_false e, Bool.or_false]
    · rcases List.mem_append.1 hr' with h | h
      · exact a8 r' h
      · obtain rfl : r' = r := by simpa using h
        exact ⟨hr, by rw [← hX]; exact hX0⟩
theorem own_far {w w' : World} {B : Nat} {e : TypeId} {size : Nat} {v : Value} {n : Nat} {xs : List Value} {row : Option Nat} (h : w.ownsRow B e size v n xs) (hg : w.grownBy w' row) (hr : ∀ g, v.ownBlock = some g → some g ≠ row) : w'.ownsRow B e size v n xs := by
  refine ⟨h.1, h.2.imp id ?_⟩
  rintro ⟨g, cap, cur, rfl, h1, h2, h3⟩
  exact ⟨g, cap, cur, rfl, h1, (hg.block g (Array.getElem?_eq_some_iff.1 h2).1 (hr g rfl)).trans h2, h3⟩
theorem below_grown {w w' : World} (h : Below w.heap.size w w') : w.grownBy w' none := ⟨h.os, h.tape, h.output, h.size, fun k hk _ => h.block k hk⟩
theorem put_endRec {B gb : Nat} {S : List Nat} {L : List RecD} {M : List RootD} {wr w5 w6 w1 w7 : World} {l1 l2 v v48 : Value} {m1 m2 B0 N : Nat} {vs : List Value} {bls : List (List Nat)} {D : DataW Unit} {r : RecD} {bl : List Nat} {X : List Int} {d : DataW Unit} (hN : N = L.length)
    (hB : B ≤ wr.heap.size) (g1 : Blk wr gb 45 (ghC l1 m1 l2 m2)) (g2 : gb ∈ S) (g3 : ∀ g, g ∈ S → B ≤ g ∧ g < wr.heap.size) (g4 : m1 ≠ m2) (g6 : BookT B wr S l2 m2 M)
    (a1 : wr.ownsRow B 25 7 l1 N (vs.flatMap cellsV)) (a2 : RowsO RecO B wr vs L bls) (a3 : ∀ g, g ∈ bls.flatten → g ∉ S) (a4 : ∀ g, l1.ownBlock = some g → g ∈ S) (a5 : wr.ownsMap (H := Unit) Try.prog 9 (plainElem Try.prog 3) m1 N D) (a6 : m1 ∈ S) (a7 : ∀ xs, BR xs → Maps.has D (klit xs) = hasT recT L xs) (a8 : ∀ r, r ∈ L → r.ok ∧ recT r ≠ [])
    (hb0 : Below wr.heap.size wr w5) (hm6 : w6.ownsMap (H := Unit) Try.prog 9 (plainElem Try.prog 3) m1 (N + 1) (D.put (klit X) d)) (hg6 : w5.grownBy w6 (some m1)) (hb : Below w6.heap.size w6 w1) (hro : RecO B0 w1 v48 r bl) (hB0 : B0 = w6.heap.size)
    (ho7 : w7.ownsRow B 25 7 v (N + 1) (vs.flatMap cellsV ++ cellsV v48)) (hg7 : w1.grownBy w7 l1.ownBlock) (hl7 : v.ownBlock = l1.ownBlock ∨ v.ownBlock = some w1.heap.size) (hr : r.ok) (hX : X = recT r) (hX0 : X ≠ []) (hlen : X.length ≤ 2000000) :
    ∃ S2, GS B (w7.setCell ⟨gb, 0, none⟩ v) S2 gb (L ++ [r]) M ∧ Ext S wr S2 (w7.setCell ⟨gb, 0, none⟩ v) := by
  subst hN
  have hg8 := grown_setCells gb [v] 0 w7
  change w7.grownBy (w7.setCell ⟨gb, 0, none⟩ v) (some gb) at hg8
  have hne1 := ghost_ne_map g1 a5
  have hrow := blk_ne_row g1 a1 (by decide)
  have hmr := map_ne_row a5 a1
  have hG7 : Blk w7 gb 45 (ghC l1 m1 l2 m2) := (((g1.below hb0).grown hg6 (fun h => hne1 (Option.some.inj h))).below hb).grown hg7 (fun h => hrow h.symm)
  have hs1 := hb0.size
  have hs2 := hg6.size
  have hs3 := hb.size
  have hs7 := hg7.size
  have K1 : Kept ([m1, gb] ++ obv l1) wr w1 := ((Kept.below hb0 _).trans (Kept.grown hg6 (fun g h => by injection h with h; simp [h]))).trans (Kept.below hb _)
  have K2 : Kept ([m1, gb] ++ obv l1) w1 (w7.setCell ⟨gb, 0, none⟩ v) := (Kept.grown hg7 (fun g h => by simp [mem_obv, h])).trans (Kept.grown hg8 (fun g h => by injection h with h; simp [h]))
  have hbl := fun g hg => hro.range g hg
  have hw7 := blk_ne_row hG7 ho7 (by decide)
  refine gs_putRec (d := d) hB g1 g2 g3 g4 g6 a1 a2 a3 a4 a5 a6 a7 a8 (K1.trans K2) (hG7.set_ 0 v) (own_far ho7 hg8 (fun g h e => hw7 (by rw [h, e]))) ?_ (hro.ext (K2.ext (S := [m1, gb] ++ obv l1) (S' := []) (fun _ h => .inl h) (fun _ h => by cases h)) (fun g hg hc => ?_)) (by omega) (fun g hg => ?_) hr hX hX0 hlen
  · exact ((hm6.kept (below_grown hb) (by simp)).kept hg7 (fun e => hmr e.symm)).kept hg8 (fun e => hne1 (Option.some.inj e).symm)
  · have h1 := (hbl g hg).1
    simp only [List.mem_append, List.mem_cons, List.not_mem_nil, or_false, mem_obv] at hc
    rcases hc with (rfl | rfl) | hc
    · have := (g3 _ a6).2
      omega
    · have := (g3 _ g2).2
      omega
    · have := (g3 _ (a4 g hc)).2
      omega
  · rcases hl7 with h | h
    · exact .inl (h ▸ hg)
    · rw [h] at hg
      injection hg with hg
      refine .inr ⟨by omega, fun hc => ?_⟩
      have := (hbl g hc).2
      omega
theorem put_ownRec {B N : Nat} {wr w5 w6 w1 : World} {la : Value} {m : Nat} {xs : List Value} {D : DataW Unit} (a1 : wr.ownsRow B 25 7 la N xs) (a5 : wr.ownsMap (H := Unit) Try.prog 9 (plainElem Try.prog 3) m N D) (hb0 : Below wr.heap.size wr w5) (hg6 : w5.grownBy w6 (some m)) (hb : Below w6.heap.size w6 w1) : w1.ownsRow B 25 7 la N xs :=
  own_far (own_far (own_far a1 (below_grown hb0) (fun g _ e => by cases e)) hg6 (fun g h e => map_ne_row a5 a1 (by rw [h, e]))) (below_grown hb) (fun g _ e => by cases e)
theorem put_endRoot {B gb : Nat} {S : List Nat} {L : List RecD} {M : List RootD} {wr w5 w6 w1 w7 : World} {l1 l2 v v48 : Value} {m1 m2 B0 N : Nat} {vs : List Value} {bls : List (List Nat)} {D : DataW Unit} {r : RootD} {bl : List Nat} {X : List Int} {d : DataW Unit} (hN : N = M.length)
    (hB : B ≤ wr.heap.size) (g1 : Blk wr gb 45 (ghC l1 m1 l2 m2)) (g2 : gb ∈ S) (g3 : ∀ g, g ∈ S → B ≤ g ∧ g < wr.heap.size) (g4 : m1 ≠ m2) (g5 : BookR B wr S l1 m1 L)
    (a1 : wr.ownsRow B 27 5 l2 N (vs.flatMap cellsV)) (a2 : RowsO RootO B wr vs M bls) (a3 : ∀ g, g ∈ bls.flatten → g ∉ S) (a4 : ∀ g, l2.ownBlock = some g → g ∈ S) (a5 : wr.ownsMap (H := Unit) Try.prog 9 (plainElem Try.prog 3) m2 N D) (a6 : m2 ∈ S) (a7 : ∀ xs, BR xs → Maps.has D (klit xs) = hasT rootT M xs) (a8 : ∀ r, r ∈ M → r.ok ∧ rootT r ≠ [])
    (hb0 : Below wr.heap.size wr w5) (hm6 : w6.ownsMap (H := Unit) Try.prog 9 (plainElem Try.prog 3) m2 (N + 1) (D.put (klit X) d)) (hg6 : w5.grownBy w6 (some m2)) (hb : Below w6.heap.size w6 w1) (hro : RootO B0 w1 v48 r bl) (hB0 : B0 = w6.heap.size)
    (ho7 : w7.ownsRow B 27 5 v (N + 1) (vs.flatMap cellsV ++ cellsV v48)) (hg7 : w1.grownBy w7 l2.ownBlock) (hl7 : v.ownBlock = l2.ownBlock ∨ v.ownBlock = some w1.heap.size) (hr : r.ok) (hX : X = rootT r) (hX0 : X ≠ []) (hlen : X.length ≤ 2000000) :
    ∃ S2, GS B (w7.setCell ⟨gb, 4, none⟩ v) S2 gb L (M ++ [r]) ∧ Ext S wr S2 (w7.setCell ⟨gb, 4, none⟩ v) := by
  subst hN
  have hg8 := grown_setCells gb [v] 4 w7
  change w7.grownBy (w7.setCell ⟨gb, 4, none⟩ v) (some gb) at hg8
  have hne1 := ghost_ne_map g1 a5
  have hrow := blk_ne_row g1 a1 (by decide)
  have hmr := map_ne_row a5 a1
  have hG7 : Blk w7 gb 45 (ghC l1 m1 l2 m2) := (((g1.below hb0).grown hg6 (fun h => hne1 (Option.some.inj h))).below hb).grown hg7 (fun h => hrow h.symm)
  have hs1 := hb0.size
  have hs2 := hg6.size
  have hs3 := hb.size
  have hs7 := hg7.size
  have K1 : Kept ([m2, gb] ++ obv l2) wr w1 := ((Kept.below hb0 _).trans (Kept.grown hg6 (fun g h => by injection h with h; simp [h]))).trans (Kept.below hb _)
  have K2 : Kept ([m2, gb] ++ obv l2) w1 (w7.setCell ⟨gb, 4, none⟩ v) := (Kept.grown hg7 (fun g h => by simp [mem_obv, h])).trans (Kept.grown hg8 (fun g h => by injection h with h; simp [h]))
  have hbl := fun g hg => hro.range g hg
  have hw7 := blk_ne_row hG7 ho7 (by decide)
  refine gs_putRoot (d := d) hB g1 g2 g3 g4 g5 a1 a2 a3 a4 a5 a6 a7 a8 (K1.trans K2) (hG7.set_ 4 v) (own_far ho7 hg8 (fun g h e => hw7 (by rw [h, e]))) ?_ (hro.ext (K2.ext (S := [m2, gb] ++ obv l2) (S' := []) (fun _ h => .inl h) (fun _ h => by cases h)) (fun g hg hc => ?_)) (by omega) (fun g hg => ?_) hr hX hX0 hlen
  · exact ((hm6.kept (below_grown hb) (by simp)).kept hg7 (fun e => hmr e.symm)).kept hg8 (fun e => hne1 (Option.some.inj e).symm)
  · have h1 := (hbl g hg).1
    simp only [List.mem_append, List.mem_cons, List.not_mem_nil, or_false, mem_obv] at hc
    rcases hc with (rfl | rfl) | hc
    · have := (g3 _ a6).2
      omega
    · have := (g3 _ g2).2
      omega
    · have := (g3 _ (a4 g hc)).2
      omega
  · rcases hl7 with h | h
    · exact .inl (h ▸ hg)
    · rw [h] at hg
      injection hg with hg
      refine .inr ⟨by omega, fun hc => ?_⟩
      have := (hbl g hc).2
      omega
theorem put_ownRoot {B N : Nat} {wr w5 w6 w1 : World} {la : Value} {m : Nat} {xs : List Value} {D : DataW Unit} (a1 : wr.ownsRow B 27 5 la N xs) (a5 : wr.ownsMap (H := Unit) Try.prog 9 (plainElem Try.prog 3) m N D) (hb0 : Below wr.heap.size wr w5) (hg6 : w5.grownBy w6 (some m)) (hb : Below w6.heap.size w6 w1) : w1.ownsRow B 27 5 la N xs :=
  own_far (own_far (own_far a1 (below_grown hb0) (fun g _ e => by cases e)) hg6 (fun g h e => map_ne_row a5 a1 (by rw [h, e]))) (below_grown hb) (fun g _ e => by cases e)
end Go.Proofs.Ytdgaoljobpneaaa
