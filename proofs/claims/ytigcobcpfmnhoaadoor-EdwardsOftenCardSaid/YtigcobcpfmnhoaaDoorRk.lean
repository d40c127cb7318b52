/- What operations of a drawn region yield: predicates that stay when memory grows. -/
import Derived.Test.YtigcobcpfmnhoaaDoorRh
import Derived.Test.YtigcobcpfmnhoaaDoorMem
namespace Go.Proofs.YtigcobcpfmnhoaaDoor
open Go.RowKit

def Eq1 (x : Value) : Value → World → Prop := fun v _ => v = x
/-- a new block -/
def NewB (B0 : Nat) (t : TypeId) (cs : Array Value) : Value → World → Prop := fun v w => ∃ g, v = .pointer (some ⟨g, 0, none⟩) ∧ B0 ≤ g ∧ Blk w g t cs
def Sta (R : Value → World → Prop) : Prop := ∀ v w w', R v w → Below w.heap.size w w' → R v w'
theorem sta_eq (x : Value) : Sta (Eq1 x) := fun _ _ _ h _ => h
theorem sta_new (B0 : Nat) (t : TypeId) (cs : Array Value) : Sta (NewB B0 t cs) := fun _ _ _ ⟨g, h1, h2, h3⟩ hb => ⟨g, h1, h2, h3.below hb⟩
theorem sta_all : ∀ (l : List (Value → World → Prop)), (∀ R, R ∈ l → Sta R) → ∀ j v w w', l.getD j (fun _ _ => True) v w → Below w.heap.size w w' → l.getD j (fun _ _ => True) v w'
  | [], _, _, _, _, _, _, _ => by simp
  | R :: l, h, 0, v, w, w', h1, hb => h R (List.mem_cons_self ..) v w w' h1 hb
  | R :: l, h, j + 1, v, w, w', h1, hb => sta_all l (fun R' hR' => h R' (List.mem_cons_of_mem _ hR')) j v w w' h1 hb
theorem new_lt {B0 : Nat} {t : TypeId} {cs : Array Value} {v : Value} {w : World} {g : Nat} (h : NewB B0 t cs v w) (e : v = .pointer (some ⟨g, 0, none⟩)) : g < w.heap.size := by
  obtain ⟨g', e', _, hb⟩ := h
  rw [e] at e'
  injection e' with e'
  injection e' with e'
  injection e' with e'
  rw [e']
  exact hb.lt
end Go.Proofs.YtigcobcpfmnhoaaDoor
