/- A ghost's books: how they stay; appends. -/
import Derived.Test.YtdgaoljobpneaaaHg
import Derived.Maps.AppendAt
namespace Go.Proofs.Ytdgaoljobpneaaa
open Go.RowKit
/-- things that lie in a row, out of S -/
def ThF {α : Type} (V : List Nat → World → Value → α → Prop) (k : Nat) (S : List Nat) (w : World) (p : Option Addr) (rs : List α) : Prop :=
  0 < rs.length → ∃ g o, p = some ⟨g, o, none⟩ ∧ g < w.heap.size ∧ g ∉ S ∧ ∀ (i : Nat) (r : α), rs[i]? = some r → ∃ v, V S w v r ∧ ∀ (j : Nat) (u : Value), (cellsV v)[j]? = some u → w.cell? ⟨g, o + i * k + j, none⟩ = some u
theorem ThF.ext {α : Type} {V : List Nat → World → Value → α → Prop} {k : Nat} {S S' : List Nat} {w w' : World} {p : Option Addr} {rs : List α} (hV : ∀ v r, V S w v r → V S' w' v r) (h : ThF V k S w p rs) (hb : Ext S w S' w') : ThF V k S' w' p rs := fun hm => by
  obtain ⟨g, o, e, hg, hS, hc⟩ := h hm
  obtain ⟨h1, h2, h3⟩ := hb.at hg hS
  refine ⟨g, o, e, h3, h2, fun i r hr => ?_⟩
  obtain ⟨v, hv, hj⟩ := hc i r hr
  exact ⟨v, hV v r hv, fun j u hu => (World.cell?_of_block (w := w) (a := ⟨g, o + i * k + j, none⟩) h1).trans (hj j u hu)⟩
def RecsF := ThF RecF 7
def RootsF := ThF RootF 5
/-- a change of the blocks C alone -/
structure Kept (C : List Nat) (w w' : World) : Prop where
  os : w'.os = w.os
  tape : w'.tape = w.tape
  output : w'.output = w.output
  size : w.heap.size ≤ w'.heap.size
  block : ∀ k, k < w.heap.size → k ∉ C → w'.heap[k]? = w.heap[k]?
theorem Kept.below {w w' : World} (h : Below w.heap.size w w') (C : List Nat) : Kept C w w' := ⟨h.os, h.tape, h.output, h.size, fun k hk _ => h.block k hk⟩
theorem Kept.grown {w w' : World} {row : Option Nat} (h : w.grownBy w' row) {C : List Nat} (hC : ∀ g, row = some g → g ∈ C) : Kept C w w' := ⟨h.os, h.tape, h.output, h.size, fun k hk hk2 => h.block k hk (fun e => hk2 (hC k e.symm))⟩
theorem Kept.trans {C : List Nat} {a b c : World} (h : Kept C a b) (k : Kept C b c) : Kept C a c := ⟨k.os.trans h.os, k.tape.trans h.tape, k.output.trans h.output, Nat.le_trans h.size k.size, fun j hj hC => (k.block j (Nat.lt_of_lt_of_le hj h.size) hC).trans (h.block j hj hC)⟩
theorem Kept.ext {C S S' : List Nat} {w w' : World} (h : Kept C w w') (hC : ∀ g, g ∈ C → g ∈ S ∨ w.heap.size ≤ g) (hS : ∀ g, g ∈ S' → g ∈ S ∨ w.heap.size ≤ g) : Ext S w S' w' :=
  ⟨h.os, h.tape, h.output, h.size, fun k hk hk2 => h.block k hk (fun hc => (hC k hc).elim hk2 (fun h2 => by omega)), hS⟩
section
variable {α : Type} {O : Nat → World → Value → α → List Nat → Prop} {T : α → List Int} {ok : α → Prop} {ty : TypeId} {k B : Nat} {w w' : World} {S S' : List Nat} {lv : Value} {mb : Nat} {L : List α}
/-- a book stays where its own blocks stay -/
theorem Book.kept (hO : ∀ w w' v r bl S S', O B w v r bl → Ext S w S' w' → (∀ g, g ∈ bl → g ∉ S) → O B w' v r bl) (hlt : ∀ w v r bl, O B w v r bl → ∀ g, g ∈ bl → g < w.heap.size) (h : Book O T ok ty k B w S lv mb L) {C : List Nat} (hk : Kept C w w') (hC : ∀ g, g ∈ C → g ∈ S ∨ w.heap.size ≤ g)
    (h1 : ∀ g, lv.ownBlock = some g → g ∉ C) (h2 : mb ∉ C) (hS : ∀ g, g ∈ S' → g ∈ S ∨ w.heap.size ≤ g) (hS2 : ∀ g, g ∈ S → g ∈ S') : Book O T ok ty k B w' S' lv mb L := by
  obtain ⟨vs, bls, D, a1, a2, a3, a4, a5, a6, a7, a8⟩ := h
  have hbl : ∀ (i : Nat) (bl : List Nat), bls[i]? = some bl → ∀ g, g ∈ bl → g ∈ bls.flatten := fun i bl hi g hg => List.mem_flatten.2 ⟨bl, List.mem_of_getElem? hi, hg⟩
  refine ⟨vs, bls, D, own_ext a1 (hk.ext (S := C) (S' := C) (fun _ h => .inl h) (fun _ h => .inl h)) h1, ⟨a2.1, a2.2.1, fun i v r bl e1 e2 e3 => hO w w' v r bl S S' (a2.2.2 i v r bl e1 e2 e3) (hk.ext hC hS) (fun g hg => a3 g (hbl i bl e3 g hg))⟩, fun g hg hs => ?_, fun g hg => hS2 g (a4 g hg), ?_, hS2 mb a6, a7, a8⟩
  · rcases hS g hs with h3 | h3
    · exact a3 g hg h3
    · obtain ⟨bl, hbl2, hg2⟩ := List.mem_flatten.1 hg
      obtain ⟨i, hi⟩ := List.mem_iff_getElem?.1 hbl2
      have hil : i < L.length := by rw [← a2.2.1]; exact (List.getElem?_eq_some_iff.1 hi).1
      have hiv : i < vs.length := by rw [a2.1]; exact hil
      have := hlt w _ _ _ (a2.2.2 i _ _ bl (List.getElem?_eq_getElem hiv) (List.getElem?_eq_getElem hil) hi) g hg2
      omega
  · obtain ⟨es, clock, b1, b2⟩ := a5
    exact ⟨es, clock, (hk.block mb (Array.getElem?_eq_some_iff.1 b1).1 h2).trans b1, b2⟩
end
theorem rec_hO (B : Nat) : ∀ w w' v r bl S S', RecO B w v r bl → Ext S w S' w' → (∀ g, g ∈ bl → g ∉ S) → RecO B w' v r bl := fun _ _ _ _ _ _ _ h hb hS => h.ext hb hS
theorem root_hO (B : Nat) : ∀ w w' v r bl S S', RootO B w v r bl → Ext S w S' w' → (∀ g, g ∈ bl → g ∉ S) → RootO B w' v r bl := fun _ _ _ _ _ _ _ h hb hS => h.ext hb hS
theorem rec_lt (B : Nat) : ∀ w v r bl, RecO B w v r bl → ∀ g, g ∈ bl → g < w.heap.size := fun _ _ _ _ h g hg => (h.range g hg).2
theorem root_lt (B : Nat) : ∀ w v r bl, RootO B w v r bl → ∀ g, g ∈ bl → g < w.heap.size := fun _ _ _ _ h g hg => (h.range g hg).2
def BookR := Book RecO recT RecD.ok 25 7
def BookT := Book RootO rootT RootD.ok 27 5
/-- a ghost at gb that has L and M; S: the blocks that its calls may turn -/
def GS (B : Nat) (w : World) (S : List Nat) (gb : Nat) (L : List RecD) (M : List RootD) : Prop :=
  ∃ l1 m1 l2 m2, Blk w gb 45 (ghC l1 m1 l2 m2) ∧ gb ∈ S ∧ (∀ g, g ∈ S → B ≤ g ∧ g < w.heap.size) ∧ m1 ≠ m2 ∧ BookR B w S l1 m1 L ∧ BookT B w S l2 m2 M
theorem GS.below {B gb : Nat} {w w' : World} {S : List Nat} {L : List RecD} {M : List RootD} (h : GS B w S gb L M) (hb : Below w.heap.size w w') : GS B w' S gb L M := by
  obtain ⟨l1, m1, l2, m2, a1, a2, a3, a4, a5, a6⟩ := h
  exact ⟨l1, m1, l2, m2, a1.below hb, a2, fun g hg => ⟨(a3 g hg).1, Nat.lt_of_lt_of_le (a3 g hg).2 hb.size⟩, a4, Book.kept (rec_hO B) (rec_lt B) a5 (Kept.below hb []) (fun _ h => by cases h) (fun _ _ h => by cases h) (fun h => by cases h) (fun _ h => .inl h) (fun _ h => h), Book.kept (root_hO B) (root_lt B) a6 (Kept.below hb []) (fun _ h => by cases h) (fun _ _ h => by cases h) (fun h => by cases h) (fun _ h => .inl h) (fun _ h => h)⟩
/-- a record's cells -/
theorem rec_cells {B : Nat} {w : World} {v : Value} {r : RecD} {bl : List Nat} (h : RecO B w v r bl) : (cellsV v).length = 7 ∧ ∀ u ∈ cellsV v, u.oneCell' = true := by
  obtain ⟨p1, c1, p2, c2, p3, c3, rfl, _⟩ := h
  refine ⟨rfl, fun u hu => ?_⟩
  simp only [cellsV, recV, List.mem_cons, List.not_mem_nil, or_false] at hu
  rcases hu with rfl | rfl | rfl | rfl | rfl | rfl | rfl <;> rfl
theorem root_cells {B : Nat} {w : World} {v : Value} {r : RootD} {bl : List Nat} (h : RootO B w v r bl) : (cellsV v).length = 5 ∧ ∀ u ∈ cellsV v, u.oneCell' = true := by
  obtain ⟨p1, c1, p2, c2, rfl, _⟩ := h
  refine ⟨rfl, fun u hu => ?_⟩
  simp only [cellsV, rootV, List.mem_cons, List.not_mem_nil, or_false] at hu
  rcases hu with rfl | rfl | rfl | rfl | rfl <;> rfl
theorem rec_info : (Try.prog.info? 25).map (fun i => (i.zero, i.size, i.bytes)) = some (some (.agg #[.string ⟨#[]⟩, .int .i64 0, .int .i64 0, .slice none 0 0, .bool false, .slice none 0 0, .slice none 0 0]), 7, 112) := by kernel_rfl
theorem root_info : (Try.prog.info? 27).map (fun i => (i.zero, i.size, i.bytes)) = some (some (.agg #[.int .i64 0, .int .i64 0, .int .i64 0, .slice none 0 0, .slice none 0 0]), 5, 72) := by kernel_rfl
theorem recs_under : Try.prog.underlying 29 = some (.slice 25) := by kernel_rfl
theorem roots_under : Try.prog.underlying 37 = some (.slice 27) := by kernel_rfl
section
variable {ops : Array Oper} {rest : List Oper} {o : Oper} {a : Act} {w : World} {Q : Exit → Act → World → Prop}
theorem wpList_appRec (hgd : o.guard = none) {s x : Operand} (ho : o.op = .call { callee := .builtin .append, args := #[s, x], argTypes := #[29, 29] }) {v : Value} (hs : a.eval s = v) {base n g : Nat} {xs : List Value} {u : Value} (hown : w.ownsRow base 25 7 v n xs)
    (hx : a.eval x = .slice (some ⟨g, 0, none⟩) 1 1) (hg : Blk w g 25 (cellsV u).toArray) (hu : (cellsV u).length = 7 ∧ ∀ y ∈ cellsV u, y.oneCell' = true) (hn : n ≤ 1000000) (hbase : base ≤ w.heap.size)
    (h : ∀ v' w', w'.ownsRow base 25 7 v' (n + 1) (xs ++ cellsV u) → w.grownBy w' v.ownBlock → (v'.ownBlock = v.ownBlock ∨ v'.ownBlock = some w.heap.size) → wpList Try.prog ops Q rest (a.put o.dst v') w') : wpList Try.prog ops Q (o :: rest) a w := by
  obtain ⟨i0, hi, hz0, hz1, hz2⟩ := info_parts rec_info
  exact wpList_append_own_at w hgd s x 29 ho base 25 i0 _ 7 112 recs_under hi hz0 hz1 hz2 rfl (by decide) v n xs hs hown ⟨g, 0, none⟩ 1 1 (cellsV u) hx hu.1 (fun j y hy => by rw [add_o, Nat.zero_add, hg.cell j]; simpa using hy) hu.2 (by unfold maxLen; omega) (by omega) hbase (fun v' w' h1 h2 _ h4 => h v' w' h1 h2 h4)
theorem wpList_appRoot (hgd : o.guard = none) {s x : Operand} (ho : o.op = .call { callee := .builtin .append, args := #[s, x], argTypes := #[37, 37] }) {v : Value} (hs : a.eval s = v) {base n g : Nat} {xs : List Value} {u : Value} (hown : w.ownsRow base 27 5 v n xs)
    (hx : a.eval x = .slice (some ⟨g, 0, none⟩) 1 1) (hg : Blk w g 27 (cellsV u).toArray) (hu : (cellsV u).length = 5 ∧ ∀ y ∈ cellsV u, y.oneCell' = true) (hn : n ≤ 1000000) (hbase : base ≤ w.heap.size)
    (h : ∀ v' w', w'.ownsRow base 27 5 v' (n + 1) (xs ++ cellsV u) → w.grownBy w' v.ownBlock → (v'.ownBlock = v.ownBlock ∨ v'.ownBlock = some w.heap.size) → wpList Try.prog ops Q rest (a.put o.dst v') w') : wpList Try.prog ops Q (o :: rest) a w := by
  obtain ⟨i0, hi, hz0, hz1, hz2⟩ := info_parts root_info
  exact wpList_append_own_at w hgd s x 37 ho base 27 i0 _ 5 72 roots_under hi hz0 hz1 hz2 rfl (by decide) v n xs hs hown ⟨g, 0, none⟩ 1 1 (cellsV u) hx hu.1 (fun j y hy => by rw [add_o, Nat.zero_add, hg.cell j]; simpa using hy) hu.2 (by unfold maxLen; omega) (by omega) hbase (fun v' w' h1 h2 _ h4 => h v' w' h1 h2 h4)
end
end Go.Proofs.Ytdgaoljobpneaaa
