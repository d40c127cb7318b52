/- The kit's marks; rows of bytes of one's own. -/
import Derived.Test.YtigcobcpfmnhoaaDoorRows
import Derived.Test.YtigcobcpfmnhoaaDoorMem
import Derived.WalkKit
import Derived.WalkSpells
import Derived.WalkLawsBesides
import Derived.RegionTactic
import Derived.ChangeAlike
import Derived.BigRegion
import Derived.Handy
import Derived.Lib.Hide
import Derived.LoopTactic
import Derived.Deep.QuietTactic
import Derived.Deep.LoopGhost
import Derived.BigQuiet
import Derived.IntWalk
import Derived.Laws.AppendOwn
namespace Go.Proofs.YtigcobcpfmnhoaaDoor
open Go.RowKit

/-- bytes as cells -/
def cB (n : Nat) (f : Nat → Int) : List Value := (List.range n).map fun i => .int .u8 (f i)
theorem cB_len (n : Nat) (f : Nat → Int) : (cB n f).length = n := by simp [cB]
theorem cB_get (n : Nat) (f : Nat → Int) (i : Nat) (h : i < n) : (cB n f)[i]? = some (.int .u8 (f i)) := by simp [cB, h]
theorem cB_congr {n : Nat} {f g : Nat → Int} (h : ∀ i, i < n → f i = g i) : cB n f = cB n g := by
  unfold cB
  exact List.map_congr_left fun i hi => by rw [h i (List.mem_range.1 hi)]
theorem cB_one {n : Nat} {f : Nat → Int} : ∀ u ∈ cB n f, u.oneCell' = true := fun u hu => by
  unfold cB at hu
  obtain ⟨i, _, rfl⟩ := List.mem_map.1 hu
  rfl
/-- a row of bytes whose block is known: block g, n bytes f, room for c -/
def RowB (w : World) (g n c : Nat) (f : Nat → Int) : Prop := ∃ cur : Array Value, w.heap[g]? = some (.cells cur 5 (0, 0)) ∧ n ≤ c ∧ c ≤ maxLen ∧ cur.size = c ∧ cur.toList.take n = cB n f
theorem RowB.lt {w : World} {g n c : Nat} {f : Nat → Int} (h : RowB w g n c f) : g < w.heap.size := by
  obtain ⟨cur, h1, _⟩ := h
  exact (Array.getElem?_eq_some_iff.1 h1).1
theorem RowB.below {w w' : World} {g n c : Nat} {f : Nat → Int} (h : RowB w g n c f) (hb : Below w.heap.size w w') : RowB w' g n c f := by
  have hl := h.lt
  obtain ⟨cur, h1, h2⟩ := h
  exact ⟨cur, (hb.block g hl).trans h1, h2⟩
theorem RowB.grown {w w' : World} {g n c : Nat} {f : Nat → Int} {row : Option Nat} (h : RowB w g n c f) (hg : w.grownBy w' row) (hne : some g ≠ row) : RowB w' g n c f := by
  have hl := h.lt
  obtain ⟨cur, h1, h2⟩ := h
  exact ⟨cur, (hg.block g hl hne).trans h1, h2⟩
theorem RowB.far {w : World} {g n c : Nat} {f : Nat → Int} (h : RowB w g n c f) {p : Addr} (hp : g ≠ p.block) (u : Value) : RowB (w.setCell p u) g n c f := by
  obtain ⟨cur, h1, h2⟩ := h
  exact ⟨cur, (Below.heap_setCell w p u g hp).trans h1, h2⟩
theorem RowB.cell {w : World} {g n c : Nat} {f : Nat → Int} (h : RowB w g n c f) (i : Nat) (hi : i < n) : w.cell? ⟨g, i, none⟩ = some (.int .u8 (f i)) := by
  obtain ⟨cur, h1, h2, h3, h4, h5⟩ := h
  rw [cell_of_row w g i cur _ (0, 0) h1, ← Array.getElem?_toList]
  have := congrArg (·[i]?) h5
  simp only [List.getElem?_take_of_lt hi, cB_get n f i hi] at this
  exact this
theorem RowB.frozen {w : World} {g n c : Nat} {f : Nat → Int} (h : RowB w g n c f) (i : Nat) : w.frozen? ⟨g, i, none⟩ = false := by
  obtain ⟨cur, h1, _⟩ := h
  exact frozen_of_row w g i cur _ h1
theorem RowB.set_ {w : World} {g n c : Nat} {f : Nat → Int} (h : RowB w g n c f) (i : Nat) (hi : i < n) (x : Int) : RowB (w.setCell ⟨g, i, none⟩ (.int .u8 x)) g n c (fun j => if j = i then x else f j) := by
  obtain ⟨cur, h1, h2, h3, h4, h5⟩ := h
  refine ⟨cur.setIfInBounds i (.int .u8 x), ?_, h2, h3, by simp [h4], ?_⟩
  · simp [World.setCell, Array.getElem?_modify, h1]
  apply List.ext_getElem?
  intro j
  have hj := congrArg (·[j]?) h5
  rcases Nat.lt_or_ge j n with hjn | hjn
  · simp only [List.getElem?_take_of_lt hjn, cB_get n _ j hjn] at hj ⊢
    rw [Array.toList_setIfInBounds, List.getElem?_set]
    by_cases e : i = j
    · subst e
      have : i < cur.toList.length := by simp [h4]; omega
      rw [if_pos rfl, if_pos this, if_pos rfl]
    rw [if_neg e, hj, if_neg (fun h => e h.symm)]
  rw [List.getElem?_eq_none (by simp; omega), List.getElem?_eq_none (by rw [cB_len]; exact hjn)]
theorem RowB.congr {w : World} {g n c : Nat} {f f' : Nat → Int} (h : RowB w g n c f) (he : ∀ i, i < n → f i = f' i) : RowB w g n c f' := by
  obtain ⟨cur, h1, h2, h3, h4, h5⟩ := h
  exact ⟨cur, h1, h2, h3, h4, by rw [h5, cB_congr he]⟩
end Go.Proofs.YtigcobcpfmnhoaaDoor
