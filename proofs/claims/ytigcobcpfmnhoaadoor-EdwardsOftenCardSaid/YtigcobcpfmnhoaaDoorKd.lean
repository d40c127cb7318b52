/- The walks of LentBytes and KeptBytes. -/
import Derived.Test.YtigcobcpfmnhoaaDoorKc
import Derived.Deep.DeepFit
namespace Go.Proofs.YtigcobcpfmnhoaaDoor
open Go.RowKit
/-- bytes that are read: nil, or cells -/
def SrcB (w : World) (v : Value) (n : Nat) (b : Nat → Int) : Prop := (v = .slice none 0 0 ∧ n = 0) ∨ ∃ g o c, v = .slice (some ⟨g, o, none⟩) n c ∧ g < w.heap.size ∧ ∀ j, j < n → w.cell? ⟨g, o + j, none⟩ = some (.int .u8 (b j))
theorem SrcB.below {w w' : World} {v : Value} {n : Nat} {b : Nat → Int} (h : SrcB w v n b) (hb : Below w.heap.size w w') : SrcB w' v n b := by
  rcases h with h | ⟨g, o, c, h1, h2, h3⟩
  · exact .inl h
  exact .inr ⟨g, o, c, h1, Nat.lt_of_lt_of_le h2 hb.size, fun j hj => (hb.cell (p := ⟨g, o + j, none⟩) h2).trans (h3 j hj)⟩
theorem add_o (g o j : Nat) : (⟨g, o, none⟩ : Addr).add j = ⟨g, o + j, none⟩ := by unfold Addr.add; split <;> simp_all
end Go.Proofs.YtigcobcpfmnhoaaDoor
