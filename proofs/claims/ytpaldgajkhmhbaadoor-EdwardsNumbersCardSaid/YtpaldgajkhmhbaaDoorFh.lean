/- The walks of SameBytes, edge, small and right. -/
import Derived.Test.YtpaldgajkhmhbaaDoorFg
namespace Go.Proofs.YtpaldgajkhmhbaaDoor
open Go.RowKit

def sameB (n1 n2 : Nat) (b1 b2 : Nat → Int) : Bool := decide (n1 = n2 ∧ ∀ j, j < n1 → b1 j = b2 j)

set_option maxHeartbeats 1000000 in
theorem sameBytes_c (g1 o1 c1 n1 g2 o2 c2 n2 : Nat) (b1 b2 : Nat → Int) (h1 : n1 ≤ 1000000) (h2 : n2 ≤ 1000000) (w : World)
    (hB1 : ∀ j, j < n1 → w.cell? ⟨g1, o1 + j, none⟩ = some (.int .u8 (b1 j))) (hB2 : ∀ j, j < n2 → w.cell? ⟨g2, o2 + j, none⟩ = some (.int .u8 (b2 j))) (hg1 : g1 < w.heap.size) (hg2 : g2 < w.heap.size) :
    Calls Tryd.prog 18 #[.slice (some ⟨g1, o1, none⟩) n1 c1, .slice (some ⟨g2, o2, none⟩) n2 c2] w (PostV (.bool (sameB n1 n2 b1 b2)) w) := by
  go_enter Tryd.func18, Tryd.ntmps18
  by_cases hn : n1 = n2
  · subst hn
    go_wp2
    go_loopw [5] (fun i wr => ∃ m : Nat, m ≤ n1 ∧ i = .int .i64 m ∧ (∀ j, j < m → b1 j = b2 j) ∧ Below w.heap.size w wr) (fun i _ => (n1 - intOf i).toNat)
    case atStart => exact ⟨0, by omega, rfl, fun j h => absurd h (by omega), Below.refl _ _⟩
    case round =>
      obtain ⟨m, hm, hi, hI, hb⟩ := hrel
      subst hi
      by_cases hmn : m = n1
      · subst hmn
        clear hm
        go_wp2
        go_returns
        refine ⟨?_, hb⟩
        show Ending.returned (.bool true) = _
        rw [show sameB m m b1 b2 = true from decide_eq_true ⟨rfl, hI⟩]
      have hm' : (m : Int) < n1 := by omega
      have hm0 : (0 : Int) ≤ (m : Int) := by omega
      have hn0 : (n1 : Int) ≤ 1000000 := by omega
      have ca := (hb.cell (p := ⟨g1, o1 + m, none⟩) hg1).trans (hB1 m (by omega))
      have cb := (hb.cell (p := ⟨g2, o2 + m, none⟩) hg2).trans (hB2 m (by omega))
      clear hB1 hB2
      have hIh := Lib.hid hI
      clear hI
      by_cases he : b1 m = b2 m
      · replace he := Lib.hid he
        go_wp2
        go_region
        rw [he.out]
        go_wp2
        refine ⟨⟨m + 1, by omega, rfl, fun j hj => ?_, hb.drew⟩, by simp [intOf]; omega⟩
        by_cases e : j = m
        · rw [e]; exact he.out
        exact hIh.out j (by omega)
      have he2 : (b1 m == b2 m) = false := by simpa using he
      go_wp2
      go_region
      simp only [he2, bne, Bool.not_false]
      go_wp2
      go_returns
      refine ⟨?_, hb.drew⟩
      show Ending.returned (.bool false) = _
      rw [show sameB n1 n1 b1 b2 = false from decide_eq_false fun h => he (h.2 m (by omega))]
  have hn2 : ((n1 : Int) == (n2 : Int)) = false := by simp; omega
  go_wp2
  go_returns
  refine ⟨?_, Below.refl _ _⟩
  show Ending.returned (.bool false) = _
  rw [show sameB n1 n2 b1 b2 = false from decide_eq_false fun h => hn h.1]

end Go.Proofs.YtpaldgajkhmhbaaDoor
