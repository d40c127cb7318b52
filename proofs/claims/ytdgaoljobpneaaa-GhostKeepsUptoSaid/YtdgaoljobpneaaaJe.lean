/- Rows of bytes as parts of a row that grows: what is known of them. -/
import Derived.Test.YtdgaoljobpneaaaJd
import Derived.Lib.ConvBytes
namespace Go.Proofs.Ytdgaoljobpneaaa
open Go.RowKit
/-- a slice of bytes xs -/
def SlL (xs : List Int) : Value → World → Prop := fun v w => ∃ p n c, v = .slice p n c ∧ n = xs.length ∧ BytesL w p xs
theorem sta_slL (xs : List Int) : Sta (SlL xs) := fun _ _ _ ⟨p, n, c, h1, h2, h3⟩ hb => ⟨p, n, c, h1, h2, h3.below hb⟩
/-- bytes that lie in another block than v's own -/
def PX (w : World) (v : Value) (q : Option Addr) (xs : List Int) : Prop := 0 < xs.length → ∃ g o, q = some ⟨g, o, none⟩ ∧ g < w.heap.size ∧ v.ownBlock ≠ some g ∧ ∀ j, j < xs.length → w.cell? ⟨g, o + j, none⟩ = some (.int .u8 (xs.getD j 0))
theorem PX.bytes {w : World} {v : Value} {q : Option Addr} {xs : List Int} (h : PX w v q xs) : BytesL w q xs := fun hm => by
  obtain ⟨g, o, e, hg, _, hc⟩ := h hm
  exact ⟨g, o, e, hg, hc⟩
theorem PX.grown {w w' : World} {v v' : Value} {q : Option Addr} {xs : List Int} (h : PX w v q xs) (hg : w.grownBy w' v.ownBlock) (hv : v'.ownBlock = v.ownBlock ∨ v'.ownBlock = some w.heap.size) : PX w' v' q xs := fun hm => by
  obtain ⟨g, o, e, hlt, hne, hc⟩ := h hm
  refine ⟨g, o, e, Nat.lt_of_lt_of_le hlt hg.size, ?_, fun j hj => (hg.cell_far ⟨g, o + j, none⟩ hlt (fun h => hne h.symm)).trans (hc j hj)⟩
  rcases hv with hv | hv
  · rw [hv]; exact hne
  · rw [hv]; intro h; injection h with h; omega
/-- v is a row of one's own of the rows ps -/
def POwn (B : Nat) (w : World) (v : Value) (ps : List (List Int)) : Prop := ∃ cells : List Value, w.ownsRow B 23 1 v ps.length cells ∧ ∀ i, i < ps.length → ∃ q n c, cells[i]? = some (.slice q n c) ∧ n = (ps.getD i []).length ∧ PX w v q (ps.getD i [])
theorem below_kept {w w' : World} {base : Nat} {e : TypeId} {size : Nat} {v : Value} {n : Nat} {xs : List Value} (h : w.ownsRow base e size v n xs) (hb : Below w.heap.size w w') : w'.ownsRow base e size v n xs := by
  refine ⟨h.1, ?_⟩
  rcases h.2 with hn | ⟨g, cap, cur, rfl, hg, hgg, rest⟩
  · exact .inl hn
  · exact .inr ⟨g, cap, cur, rfl, hg, (hb.block g (Array.getElem?_eq_some_iff.1 hgg).1).trans hgg, rest⟩
theorem POwn.below {B : Nat} {w w' : World} {v : Value} {ps : List (List Int)} (h : POwn B w v ps) (hb : Below w.heap.size w w') : POwn B w' v ps := by
  obtain ⟨cells, h1, h2⟩ := h
  refine ⟨cells, below_kept h1 hb, fun i hi => ?_⟩
  obtain ⟨q, n, c, h3, h4, h5⟩ := h2 i hi
  refine ⟨q, n, c, h3, h4, fun hm => ?_⟩
  obtain ⟨g, o, e, hlt, hne, hc⟩ := h5 hm
  exact ⟨g, o, e, Nat.lt_of_lt_of_le hlt hb.size, hne, fun j hj => (hb.cell (p := ⟨g, o + j, none⟩) hlt).trans (hc j hj)⟩
theorem POwn.parts {B : Nat} {w : World} {g n c : Nat} {ps : List (List Int)} (h : POwn B w (.slice (some ⟨g, 0, none⟩) n c) ps) (hn : n = ps.length) : PartsAt w g 0 ps := by
  obtain ⟨cells, h1, h2⟩ := h
  have hg := h1.lt g rfl
  refine ⟨hg.2, fun i hi => ?_⟩
  obtain ⟨q, m, c', h3, h4, h5⟩ := h2 i hi
  refine ⟨q, m, c', ?_, h4, h5.bytes⟩
  rw [← hn] at h1
  rw [Nat.zero_add, h1.cellAt i (by omega), h3]
/-- two more rows -/
theorem POwn.app2 {B : Nat} {w w' : World} {v v' : Value} {ps : List (List Int)} {q1 q2 : Option Addr} {n1 n2 c1 c2 : Nat} {x1 x2 : List Int} (h : ∃ cells, w.ownsRow B 23 1 v ps.length cells ∧ (∀ i, i < ps.length → ∃ q n c, cells[i]? = some (.slice q n c) ∧ n = (ps.getD i []).length ∧ PX w v q (ps.getD i [])) ∧ w'.ownsRow B 23 1 v' (ps.length + 2) (cells ++ [.slice q1 n1 c1, .slice q2 n2 c2]))
    (hg : w.grownBy w' v.ownBlock) (hv : v'.ownBlock = v.ownBlock ∨ v'.ownBlock = some w.heap.size) (e1 : n1 = x1.length) (e2 : n2 = x2.length) (h1 : PX w v q1 x1) (h2 : PX w v q2 x2) : POwn B w' v' (ps ++ [x1, x2]) := by
  obtain ⟨cells, ho, hc, ho'⟩ := h
  have hl : cells.length = ps.length := by have := ho.1; omega
  refine ⟨_, by rw [List.length_append]; exact ho', fun i hi => ?_⟩
  rw [List.length_append] at hi
  simp only [List.length_cons, List.length_nil] at hi
  rcases Nat.lt_or_ge i ps.length with h | h
  · obtain ⟨q, n, c, h3, h4, h5⟩ := hc i h
    have hgd : (ps ++ [x1, x2]).getD i [] = ps.getD i [] := by simp [List.getElem?_append, h]
    rw [hgd]
    exact ⟨q, n, c, by rw [List.getElem?_append_left (by omega)]; exact h3, h4, h5.grown hg hv⟩
  · have : i = ps.length ∨ i = ps.length + 1 := by omega
    rcases this with rfl | rfl
    · have hgd : (ps ++ [x1, x2]).getD ps.length [] = x1 := by simp
      rw [hgd]
      exact ⟨q1, n1, c1, by rw [List.getElem?_append_right (by omega), hl]; simp, e1, h1.grown hg hv⟩
    · have hgd : (ps ++ [x1, x2]).getD (ps.length + 1) [] = x2 := by simp
      rw [hgd]
      exact ⟨q2, n2, c2, by rw [List.getElem?_append_right (by omega), hl]; simp, e2, h2.grown hg hv⟩
/-- a new row of five -/
theorem pown5 {B : Nat} {w : World} {v0 v1 v2 v3 v4 : Value} {x0 x1 x2 x3 x4 : List Int} (hB : B ≤ w.heap.size) (h0 : SlL x0 v0 w) (h1 : SlL x1 v1 w) (h2 : SlL x2 v2 w) (h3 : SlL x3 v3 w) (h4 : SlL x4 v4 w) :
    POwn B (w.alloc (.cells #[v0, v1, v2, v3, v4] 23)) (.slice (some ⟨w.heap.size, 0, none⟩) 5 5) [x0, x1, x2, x3, x4] := by
  have hx : ∀ {x v}, SlL x v w → ∃ q n c, v = .slice q n c ∧ n = x.length ∧ PX (w.alloc (.cells #[v0, v1, v2, v3, v4] 23)) (.slice (some ⟨w.heap.size, 0, none⟩) 5 5) q x := fun {x v} ⟨q, n, c, e, en, hb⟩ => ⟨q, n, c, e, en, fun hm => by
    obtain ⟨g, o, e2, hg, hc⟩ := hb hm
    have hbl : Below w.heap.size w (w.alloc (.cells #[v0, v1, v2, v3, v4] 23)) := (Below.refl _ _).alloc (Nat.le_refl _) _
    exact ⟨g, o, e2, Nat.lt_of_lt_of_le hg hbl.size, by show some w.heap.size ≠ some g; intro h; injection h with h; omega, fun j hj => (hbl.cell (p := ⟨g, o + j, none⟩) hg).trans (hc j hj)⟩⟩
  refine ⟨[v0, v1, v2, v3, v4], ⟨rfl, .inr ⟨w.heap.size, 5, _, rfl, hB, heap_alloc_new w _, Nat.le_refl _, by unfold maxLen; decide, rfl, rfl⟩⟩, fun i hi => ?_⟩
  simp only [List.length_cons, List.length_nil] at hi
  have : i = 0 ∨ i = 1 ∨ i = 2 ∨ i = 3 ∨ i = 4 := by omega
  rcases this with rfl | rfl | rfl | rfl | rfl
  · obtain ⟨q, n, c, e, en, h⟩ := hx h0; exact ⟨q, n, c, congrArg some e, en, h⟩
  · obtain ⟨q, n, c, e, en, h⟩ := hx h1; exact ⟨q, n, c, congrArg some e, en, h⟩
  · obtain ⟨q, n, c, e, en, h⟩ := hx h2; exact ⟨q, n, c, congrArg some e, en, h⟩
  · obtain ⟨q, n, c, e, en, h⟩ := hx h3; exact ⟨q, n, c, congrArg some e, en, h⟩
  · obtain ⟨q, n, c, e, en, h⟩ := hx h4; exact ⟨q, n, c, congrArg some e, en, h⟩
def PtL (B : Nat) (ps : List (List Int)) : Value → World → Prop := fun v w => ∃ g, v = .slice (some ⟨g, 0, none⟩) 5 5 ∧ POwn B w (.slice (some ⟨g, 0, none⟩) 5 5) ps
theorem sta_ptL (B : Nat) (ps : List (List Int)) : Sta (PtL B ps) := fun _ _ _ ⟨g, h1, h2⟩ hb => ⟨g, h1, h2.below hb⟩
/-- a string's bytes -/
def keyL (k : ByteArray) : List Int := k.data.toList.map fun b => (b.toNat : Int)
theorem keyL_len (k : ByteArray) : (keyL k).length = k.size := by simp [keyL]
theorem conv_below (w : World) (k : ByteArray) : Below w.heap.size w (Lib.bytesWorld w 5 k) := ⟨rfl, rfl, rfl, by rw [Lib.bytesWorld_size]; omega, fun j hj => Lib.bytesWorld_at_old w _ k j hj⟩
theorem conv_sl (w : World) (k : ByteArray) (c : Nat) : SlL (keyL k) (.slice (some ⟨w.heap.size, 0, none⟩) k.size c) (Lib.bytesWorld w 5 k) :=
  ⟨_, _, _, rfl, (keyL_len k).symm, fun _ => ⟨_, _, rfl, by rw [Lib.bytesWorld_size]; omega, fun j hj => by
    rw [keyL_len] at hj
    rw [Nat.zero_add, Lib.bytesWorld_cell w _ k j hj]
    have hj2 : j < k.data.size := hj
    simp [keyL, List.getD_eq_getElem?_getD, Array.getElem?_eq_getElem hj2]⟩⟩
theorem str_under : Try.prog.underlying 9 = some .string := by kernel_rfl
theorem u8_under : Try.prog.underlying 5 = some (.int .u8) := by kernel_rfl
theorem conv_run (k : ByteArray) (w : World) : (convert 9 23 (.string k)).run Try.prog w = .ok (.slice (some ⟨w.heap.size, 0, none⟩) k.size (grownCap w k.size 0 5)) (Lib.bytesWorld w 5 k) :=
  Lib.run_convert_string_bytes w _ _ _ k str_under bs_under u8_under
def lenL (xs : List Int) : List Int := numL (xs.length : Nat) ++ xs
theorem bytes_l (p : Option Addr) (n c : Nat) (xs : List Int) (hn : n = xs.length) (hn2 : n ≤ 1000000) (w : World) (hB : BytesL w p xs) : Calls Try.prog 78 #[.slice p n c] w (PostL (lenL xs) w) := by
  have := bytes_c p n c xs hn hn2 w hB
  unfold lenL
  rw [← hn]
  exact this
end Go.Proofs.Ytdgaoljobpneaaa
