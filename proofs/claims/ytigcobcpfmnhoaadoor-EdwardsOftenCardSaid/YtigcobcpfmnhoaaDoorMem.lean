/- Memory: a whole block stored at once; facts on blocks that stay. -/
import Derived.Deep.MidRow
import Derived.Below
import Derived.WalkKit
namespace Go.Proofs.YtigcobcpfmnhoaaDoor
open Go.RowKit

/-- block g is known whole, nothing of it frozen -/
def Blk (w : World) (g : Nat) (t : TypeId) (cs : Array Value) : Prop := w.heap[g]? = some (.cells cs t (0, 0))
theorem Blk.lt {w : World} {g : Nat} {t : TypeId} {cs : Array Value} (h : Blk w g t cs) : g < w.heap.size := (Array.getElem?_eq_some_iff.1 h).1
theorem Blk.cell {w : World} {g : Nat} {t : TypeId} {cs : Array Value} (h : Blk w g t cs) (i : Nat) : w.cell? ⟨g, i, none⟩ = cs[i]? := cell_of_row w g i cs t (0, 0) h
theorem Blk.frozen {w : World} {g : Nat} {t : TypeId} {cs : Array Value} (h : Blk w g t cs) (i : Nat) : w.frozen? ⟨g, i, none⟩ = false := frozen_of_row w g i cs t h
theorem Blk.below {w w' : World} {g : Nat} {t : TypeId} {cs : Array Value} (h : Blk w g t cs) (hb : Below w.heap.size w w') : Blk w' g t cs := (hb.block g h.lt).trans h
theorem Blk.new (w : World) (t : TypeId) (cs : Array Value) : Blk (w.alloc (.cells cs t)) w.heap.size t cs := heap_alloc_new w _
theorem Blk.drew {w : World} {g : Nat} {t : TypeId} {cs : Array Value} (h : Blk w g t cs) : Blk w.drew g t cs := h
theorem Blk.alloc {w : World} {g : Nat} {t : TypeId} {cs : Array Value} (h : Blk w g t cs) (o : Obj) : Blk (w.alloc o) g t cs := (Below.heap_alloc w o g h.lt).trans h
theorem Blk.set_ {w : World} {g : Nat} {t : TypeId} {cs : Array Value} (h : Blk w g t cs) (i : Nat) (u : Value) : Blk (w.setCell ⟨g, i, none⟩ u) g t (cs.setIfInBounds i u) := by
  unfold Blk at h ⊢
  simp [World.setCell, Array.getElem?_modify, h]
theorem Blk.far {w : World} {g : Nat} {t : TypeId} {cs : Array Value} (h : Blk w g t cs) {p : Addr} (hp : g ≠ p.block) (u : Value) : Blk (w.setCell p u) g t cs := (Below.heap_setCell w p u g hp).trans h
theorem Blk.grown {w w' : World} {g : Nat} {t : TypeId} {cs : Array Value} {row : Option Nat} (h : Blk w g t cs) (hb : w.grownBy w' row) (hg : some g ≠ row) : Blk w' g t cs := (hb.block g h.lt hg).trans h

theorem nof {p : Prop} (h : false = true) : p := by cases h
theorem blk_at {w : World} {g g' : Nat} {t : TypeId} {cs : Array Value} (e : g' = g) (h : Blk w g' t cs) : Blk w g t cs := e ▸ h

theorem blk_setCells {g : Nat} {t : TypeId} : ∀ (vs : List Value) (o : Nat) (w : World) (cs : List Value), Blk w g t (cs ++ vs).toArray → ∀ us : List Value, us.length = vs.length → cs.length = o →
    Blk (w.setCells g o us) g t (cs ++ us).toArray
  | [], o, w, cs, h, [], _, _ => h
  | v :: vs, o, w, cs, h, u :: us, hl, ho => by
    have h1 := h.set_ o u
    have e : ((cs ++ v :: vs).toArray.setIfInBounds o u) = ((cs ++ [u]) ++ vs).toArray := by
      subst ho
      simp
    rw [e] at h1
    have := blk_setCells vs (o + 1) _ (cs ++ [u]) h1 us (by simpa using hl) (by simp [ho])
    simpa [World.setCells] using this
theorem grown_setCells (g : Nat) : ∀ (us : List Value) (o : Nat) (w : World), w.grownBy (w.setCells g o us) (some g)
  | [], o, w => ⟨rfl, rfl, rfl, Nat.le_refl _, fun _ _ _ => rfl⟩
  | u :: us, o, w => by
    have h := grown_setCells g us (o + 1) (w.setCell ⟨g, o, none⟩ u)
    refine ⟨h.os, h.tape, h.output, ?_, fun i hi hne => ?_⟩
    · have hs : (w.setCell ⟨g, o, none⟩ u).heap.size = w.heap.size := by simp [World.setCell]
      have := h.size
      rw [hs] at this
      exact this
    · have hne' : i ≠ g := fun e => hne (by rw [e])
      exact (h.block i (by simpa [World.setCell] using hi) hne).trans (Below.heap_setCell w _ _ i hne')

/-- a whole block is stored: the world behind it is a letter -/
theorem wpList_store_blk {P : Program} {ops : Array Oper} {rest : List Oper} {op : Oper} {a : Act} {w : World} {Q : Exit → Act → World → Prop} (hgd : op.guard = none) (ty : TypeId) (x y : Operand) (ho : op.op = .store ty x y)
    (g : Nat) (t : TypeId) (old cells : Array Value) (hx : a.eval x = .pointer (some ⟨g, 0, none⟩)) (hy : a.eval y = .agg cells) (hg : Blk w g t old) (hs : old.size = cells.size)
    (hi : (P.info? ty).map (·.size) = some cells.size) (h1 : cells.all (·.oneCell') = true)
    (h : ∀ w', Blk w' g t cells → w.grownBy w' (some g) → w'.heap.size = w.heap.size → wpList P ops Q rest (a.put op.dst undef) w') : wpList P ops Q (op :: rest) a w := by
  refine wpList_store_mid hgd ty x y ho g 0 cells hx hy (fun j hj => ?_) hi h1 (h _ ?_ (grown_setCells g _ 0 w) ?_)
  · rw [Nat.zero_add, hg.cell j, Array.getElem?_eq_getElem (by omega)]
    exact ⟨rfl, hg.frozen j⟩
  · have := blk_setCells (g := g) (t := t) old.toList 0 w [] (by simpa using hg) cells.toList (by simp [hs]) rfl
    simpa using this
  · have hsz : ∀ (us : List Value) (o : Nat) (w : World), (w.setCells g o us).heap.size = w.heap.size := by
      intro us
      induction us with
      | nil => intro o w; rfl
      | cons u us ih => intro o w; rw [World.setCells, ih]; simp [World.setCell]
    exact hsz _ _ _

theorem bcell {W w1 : World} (hb : Below W.heap.size W w1) : (∀ b o, b < W.heap.size → w1.cell? ⟨b, o, none⟩ = W.cell? ⟨b, o, none⟩) ∧ (∀ b o, b < W.heap.size → w1.frozen? ⟨b, o, none⟩ = W.frozen? ⟨b, o, none⟩) :=
  ⟨fun b o h => hb.cell (p := ⟨b, o, none⟩) h, fun b o h => hb.frozen (p := ⟨b, o, none⟩) h⟩
theorem below_after {w W w1 : World} (h : Below w.heap.size w W) (hb : Below W.heap.size W w1) : Below w.heap.size w w1 := h.trans (hb.mono h.size)
theorem at_world {P : Program} {c : Code} {Q : Exit → Act → World → Prop} {a : Act} {W : World} (h : ∀ W0, W0 = W → Code.wp P c Q a W0) : Code.wp P c Q a W := h W rfl
end Go.Proofs.YtigcobcpfmnhoaaDoor
