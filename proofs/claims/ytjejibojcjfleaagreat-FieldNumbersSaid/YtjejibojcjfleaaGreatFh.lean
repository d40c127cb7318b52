/- The walks of SameBytes, edge, small and right. -/
import Derived.Test.YtjejibojcjfleaaGreatFg
namespace Go.Proofs.YtjejibojcjfleaaGreat
open Go.RowKit

/-- bytes as cells -/
def byV (n : Nat) (b : Nat → Int) : Array Value := ((List.range n).map fun j => Value.int .u8 (b j)).toArray
theorem byV_get (n : Nat) (b : Nat → Int) (j : Nat) (h : j < n) : (byV n b)[j]? = some (.int .u8 (b j)) := by
  simp [byV, h]
def sameB (n1 n2 : Nat) (b1 b2 : Nat → Int) : Bool := decide (n1 = n2 ∧ ∀ j, j < n1 → b1 j = b2 j)

set_option maxRecDepth 20000 in
set_option maxHeartbeats 1000000 in
theorem sameBytes_c (g1 o1 c1 n1 g2 o2 c2 n2 : Nat) (b1 b2 : Nat → Int) (h1 : n1 ≤ 1000000) (h2 : n2 ≤ 1000000) (w : World)
    (hB1 : ∀ j, j < n1 → w.cell? ⟨g1, o1 + j, none⟩ = some (.int .u8 (b1 j))) (hB2 : ∀ j, j < n2 → w.cell? ⟨g2, o2 + j, none⟩ = some (.int .u8 (b2 j))) (hg1 : g1 < w.heap.size) (hg2 : g2 < w.heap.size) :
    Calls Tryz.prog 11 #[.slice (some ⟨g1, o1, none⟩) n1 c1, .slice (some ⟨g2, o2, none⟩) n2 c2] w (PostV (.bool (sameB n1 n2 b1 b2)) w) := by
  go_enter Tryz.func11, Tryz.ntmps11
  by_cases hn : n1 = n2
  · subst hn
    go_wp2
    go_loopw [5] (fun i wr => ∃ m : Nat, m ≤ n1 ∧ i = .int .i64 m ∧ (∀ j, j < m → b1 j = b2 j) ∧ Below w.heap.size w wr) (fun i _ => (n1 - intOf i).toNat)
    case atStart => exact ⟨0, by omega, rfl, fun j h => absurd h (by omega), Below.refl _ _⟩
    case round =>
      obtain ⟨m, hm, hi, hI, hb⟩ := hrel
      subst hi
      by_cases hmn : m = n1
      · subst hmn
        clear hm
        go_wp2
        go_returns
        refine ⟨?_, hb⟩
        show Ending.returned (.bool true) = _
        rw [show sameB m m b1 b2 = true from decide_eq_true ⟨rfl, hI⟩]
      · have hm' : (m : Int) < n1 := by omega
        have hm0 : (0 : Int) ≤ (m : Int) := by omega
        have hn0 : (n1 : Int) ≤ 1000000 := by omega
        have ca := (hb.cell (p := ⟨g1, o1 + m, none⟩) hg1).trans (hB1 m (by omega))
        have cb := (hb.cell (p := ⟨g2, o2 + m, none⟩) hg2).trans (hB2 m (by omega))
        clear hB1 hB2
        have hIh := Lib.hid hI
        clear hI
        by_cases he : b1 m = b2 m
        · replace he := Lib.hid he
          go_wp2
          go_region
          rw [he.out]
          go_wp2
          refine ⟨⟨m + 1, by omega, rfl, fun j hj => ?_, hb.drew⟩, by simp [intOf]; omega⟩
          by_cases e : j = m
          · rw [e]; exact he.out
          · exact hIh.out j (by omega)
        · have he2 : (b1 m == b2 m) = false := by simpa using he
          go_wp2
          go_region
          simp only [he2, bne, Bool.not_false]
          go_wp2
          go_returns
          refine ⟨?_, hb.drew⟩
          show Ending.returned (.bool false) = _
          rw [show sameB n1 n1 b1 b2 = false from decide_eq_false fun h => he (h.2 m (by omega))]
  · have hn2 : ((n1 : Int) == (n2 : Int)) = false := by simp; omega
    go_wp2
    go_returns
    refine ⟨?_, Below.refl _ _⟩
    show Ending.returned (.bool false) = _
    rw [show sameB n1 n2 b1 b2 = false from decide_eq_false fun h => hn h.1]

set_option maxRecDepth 20000 in
set_option maxHeartbeats 400000 in
theorem small_c (n : Int) (w : World) : Calls Tryz.prog 18 #[.int .u64 n] w (PostE ⟨n, 0, 0, 0, 0⟩ w) := by
  go_enter Tryz.func18, Tryz.ntmps18
  go_wp2
  refine bodyPost_ret (v := .agg #[.int .u64 n, .int .u64 0, .int .u64 0, .int .u64 0, .int .u64 0]) (by simp [results, Tryz.results18, go_sem]) rfl ?_
  refine ⟨rfl, ?_⟩
  go_grown

def edgeB (n : Int) (j : Nat) : Int := if j = 0 then (237 + n) % 256 else if j = 31 then 127 else 255
def edgeI (m : Nat) (j : Nat) : Int := if j < m then 255 else 0
theorem edgeI_set (m : Nat) : (byV 32 (edgeI m)).setIfInBounds m (.int .u8 255) = byV 32 (edgeI (m + 1)) := by
  apply Array.ext_getElem?
  intro j
  by_cases hj : j < 32
  · rw [byV_get _ _ _ hj]
    by_cases e : m = j
    · subst e
      simp [byV, edgeI, hj]
    · have h1 : (j < m + 1) = (j < m) := by apply propext; omega
      simp [byV, edgeI, hj, e, h1]
  · simp [byV, hj]
theorem edge_last (n : Int) : ((byV 32 (edgeI 32)).setIfInBounds 0 (.int .u8 ((237 + n) % 256))).setIfInBounds 31 (.int .u8 127) = byV 32 (edgeB n) := rfl

set_option maxRecDepth 20000 in
set_option maxHeartbeats 1000000 in
theorem edge_c (n : Int) (h1 : -1000 ≤ n) (h2 : n ≤ 1000) (w : World) : Calls Tryz.prog 17 #[.int .i64 n] w fun e w' => ∃ g, w.heap.size ≤ g ∧ e = .returned (.slice (some ⟨g, 0, none⟩) 32 32) ∧ Blk w' g 5 (byV 32 (edgeB n)) ∧ Below w.heap.size w w' := by
  have hmk : ∀ w, (Instr.makeSlice 22 (.int .i64 32) (.int .i64 32)).run Tryz.prog w = .ok (.slice (some ⟨w.heap.size, 0, none⟩) 32 32) (w.alloc (.cells (List.replicate 32 (.int .u8 0)).toArray 5)) := fun _ => by kernel_rfl
  go_enter Tryz.func17, Tryz.ntmps17
  go_wp2
  go_loopw [4] (fun i wr => ∃ m : Nat, m ≤ 32 ∧ i = .int .i64 m ∧ Blk wr w.heap.size 5 (byV 32 (edgeI m)) ∧ Below w.heap.size w wr) (fun i _ => (32 - intOf i).toNat)
  case atStart => exact ⟨0, by decide, rfl, Blk.new _ _ _, by go_grown⟩
  case round =>
    obtain ⟨m, hm, hi, hG, hb⟩ := hrel
    subst hi
    have fg := fun j => hG.frozen j
    by_cases h32 : m = 32
    · subst h32
      have c0 := hG.cell 0
      have c31 := hG.cell 31
      rw [byV_get _ _ _ (by decide)] at c0 c31
      clear hm
      go_wp2
      go_returns
      refine ⟨w.heap.size, Nat.le_refl _, rfl, ?_, ?_⟩
      · have := (hG.set_ 0 (.int .u8 ((237 + n) % 256))).set_ 31 (.int .u8 127)
        rw [edge_last] at this
        exact this
      · exact (hb.setCell (p := ⟨w.heap.size, 0, none⟩) (Nat.le_refl _) _).setCell (p := ⟨w.heap.size, 31, none⟩) (Nat.le_refl _) _
    · have hm0 : (0 : Int) ≤ (m : Int) := by omega
      have hm1 : (m : Int) < 32 := by omega
      have cm := hG.cell m
      rw [byV_get _ _ _ (by omega)] at cm
      clear hm h32
      go_wp2
      refine ⟨⟨m + 1, by omega, rfl, ?_, ?_⟩, by simp [intOf]; omega⟩
      · have := hG.set_ m (.int .u8 255)
        rw [edgeI_set] at this
        exact this
      · exact hb.setCell (p := ⟨w.heap.size, m, none⟩) (Nat.le_refl _) _

end Go.Proofs.YtjejibojcjfleaaGreat
