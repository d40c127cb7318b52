/- The walks of SameBytes, edge, small and right. -/
import Derived.Test.YtjejibojcjfleaaFg
namespace Go.Proofs.Ytjejibojcjfleaa
open Go.RowKit

/-- bytes as cells -/
def byV (n : Nat) (b : Nat → Int) : Array Value := ((List.range n).map fun j => Value.int .u8 (b j)).toArray
theorem byV_get (n : Nat) (b : Nat → Int) (j : Nat) (h : j < n) : (byV n b)[j]? = some (.int .u8 (b j)) := by
  simp [byV, h]
def sameB (n1 n2 : Nat) (b1 b2 : Nat → Int) : Bool := decide (n1 = n2 ∧ ∀ j, j < n1 → b1 j = b2 j)

set_option maxHeartbeats 1000000 in
theorem sameBytes_c (g1 o1 c1 n1 g2 o2 c2 n2 : Nat) (b1 b2 : Nat → Int) (h1 : n1 ≤ 1000000) (h2 : n2 ≤ 1000000) (w : World)
    (hB1 : ∀ j, j < n1 → w.cell? ⟨g1, o1 + j, none⟩ = some (.int .u8 (b1 j))) (hB2 : ∀ j, j < n2 → w.cell? ⟨g2, o2 + j, none⟩ = some (.int .u8 (b2 j))) (hg1 : g1 < w.heap.size) (hg2 : g2 < w.heap.size) :
    Calls Try.prog 22 #[.slice (some ⟨g1, o1, none⟩) n1 c1, .slice (some ⟨g2, o2, none⟩) n2 c2] w (PostV (.bool (sameB n1 n2 b1 b2)) w) := by
  go_enter Try.func22, Try.ntmps22
  by_cases hn : n1 = n2
  · subst hn
    go_wp2
    go_loopw [5] (fun i wr => ∃ m : Nat, m ≤ n1 ∧ i = .int .i64 m ∧ (∀ j, j < m → b1 j = b2 j) ∧ Below w.heap.size w wr) (fun i _ => (n1 - intOf i).toNat)
    case atStart => exact ⟨0, by omega, rfl, fun j h => absurd h (by omega), Below.refl _ _⟩
    case round =>
      obtain ⟨m, hm, hi, hI, hb⟩ := hrel
      subst hi
      by_cases hmn : m = n1
      · subst hmn
        clear hm
        go_wp2
        go_returns
        refine ⟨?_, hb⟩
        show Ending.returned (.bool true) = _
        rw [show sameB m m b1 b2 = true from decide_eq_true ⟨rfl, hI⟩]
      · have hm' : (m : Int) < n1 := by omega
        have hm0 : (0 : Int) ≤ (m : Int) := by omega
        have hn0 : (n1 : Int) ≤ 1000000 := by omega
        have ca := (hb.cell (p := ⟨g1, o1 + m, none⟩) hg1).trans (hB1 m (by omega))
        have cb := (hb.cell (p := ⟨g2, o2 + m, none⟩) hg2).trans (hB2 m (by omega))
        clear hB1 hB2
        have hIh := Lib.hid hI
        clear hI
        by_cases he : b1 m = b2 m
        · replace he := Lib.hid he
          go_wp2
          go_region
          rw [he.out]
          go_wp2
          refine ⟨⟨m + 1, by omega, rfl, fun j hj => ?_, hb.drew⟩, by simp [intOf]; omega⟩
          by_cases e : j = m
          · rw [e]; exact he.out
          · exact hIh.out j (by omega)
        · have he2 : (b1 m == b2 m) = false := by simpa using he
          go_wp2
          go_region
          simp only [he2, bne, Bool.not_false]
          go_wp2
          go_returns
          refine ⟨?_, hb.drew⟩
          show Ending.returned (.bool false) = _
          rw [show sameB n1 n1 b1 b2 = false from decide_eq_false fun h => he (h.2 m (by omega))]
  · have hn2 : ((n1 : Int) == (n2 : Int)) = false := by simp; omega
    go_wp2
    go_returns
    refine ⟨?_, Below.refl _ _⟩
    show Ending.returned (.bool false) = _
    rw [show sameB n1 n2 b1 b2 = false from decide_eq_false fun h => hn h.1]

set_option maxHeartbeats 400000 in
theorem small_c (n : Int) (w : World) : Calls Try.prog 36 #[.int .u64 n] w (PostE ⟨n, 0, 0, 0, 0⟩ w) := by
  go_enter Try.func36, Try.ntmps36
  go_wp2
  refine bodyPost_ret (v := .agg #[.int .u64 n, .int .u64 0, .int .u64 0, .int .u64 0, .int .u64 0]) (by simp [results, Try.results36, go_sem]) rfl ?_
  refine ⟨rfl, ?_⟩
  go_grown

def edgeB (n : Int) (j : Nat) : Int := if j = 0 then (237 + n) % 256 else if j = 31 then 127 else 255
def edgeI (m : Nat) (j : Nat) : Int := if j < m then 255 else 0
theorem edgeI_set (m : Nat) : (byV 32 (edgeI m)).setIfInBounds m (.int .u8 255) = byV 32 (edgeI (m + 1)) := by
  apply Array.ext_getElem?
  intro j
  by_cases hj : j < 32
  · rw [byV_get _ _ _ hj]
    by_cases e : m = j
    · subst e
      simp [byV, edgeI, hj]
    · have h1 : (j < m + 1) = (j < m) := by apply propext; omega
      simp [byV, edgeI, hj, e, h1]
  · simp [byV, hj]
theorem edge_last (n : Int) : ((byV 32 (edgeI 32)).setIfInBounds 0 (.int .u8 ((237 + n) % 256))).setIfInBounds 31 (.int .u8 127) = byV 32 (edgeB n) := rfl

set_option maxHeartbeats 1000000 in
theorem edge_c (n : Int) (h1 : -1000 ≤ n) (h2 : n ≤ 1000) (w : World) : Calls Try.prog 35 #[.int .i64 n] w fun e w' => ∃ g, w.heap.size ≤ g ∧ e = .returned (.slice (some ⟨g, 0, none⟩) 32 32) ∧ Blk w' g 5 (byV 32 (edgeB n)) ∧ Below w.heap.size w w' := by
  have hmk : ∀ w, (Instr.makeSlice 40 (.int .i64 32) (.int .i64 32)).run Try.prog w = .ok (.slice (some ⟨w.heap.size, 0, none⟩) 32 32) (w.alloc (.cells (List.replicate 32 (.int .u8 0)).toArray 5)) := fun _ => by kernel_rfl
  go_enter Try.func35, Try.ntmps35
  go_wp2
  go_loopw [4] (fun i wr => ∃ m : Nat, m ≤ 32 ∧ i = .int .i64 m ∧ Blk wr w.heap.size 5 (byV 32 (edgeI m)) ∧ Below w.heap.size w wr) (fun i _ => (32 - intOf i).toNat)
  case atStart => exact ⟨0, by decide, rfl, Blk.new _ _ _, by go_grown⟩
  case round =>
    obtain ⟨m, hm, hi, hG, hb⟩ := hrel
    subst hi
    have fg := fun j => hG.frozen j
    by_cases h32 : m = 32
    · subst h32
      have c0 := hG.cell 0
      have c31 := hG.cell 31
      rw [byV_get _ _ _ (by decide)] at c0 c31
      clear hm
      go_wp2
      go_returns
      refine ⟨w.heap.size, Nat.le_refl _, rfl, ?_, ?_⟩
      · have := (hG.set_ 0 (.int .u8 ((237 + n) % 256))).set_ 31 (.int .u8 127)
        rw [edge_last] at this
        exact this
      · exact (hb.setCell (p := ⟨w.heap.size, 0, none⟩) (Nat.le_refl _) _).setCell (p := ⟨w.heap.size, 31, none⟩) (Nat.le_refl _) _
    · have hm0 : (0 : Int) ≤ (m : Int) := by omega
      have hm1 : (m : Int) < 32 := by omega
      have cm := hG.cell m
      rw [byV_get _ _ _ (by omega)] at cm
      clear hm h32
      go_wp2
      refine ⟨⟨m + 1, by omega, rfl, ?_, ?_⟩, by simp [intOf]; omega⟩
      · have := hG.set_ m (.int .u8 255)
        rw [edgeI_set] at this
        exact this
      · exact hb.setCell (p := ⟨w.heap.size, m, none⟩) (Nat.le_refl _) _

def rightB (n : Nat) (X : Nat → Fe.E) : Bool := (List.range n).all fun i => (List.range 5).all fun k => decide (Fe.limb (X i) k < 4503599627370496)
theorem rightB_iff (n : Nat) (X : Nat → Fe.E) : rightB n X = true ↔ ∀ i, i < n → ∀ k, k < 5 → Fe.limb (X i) k < 4503599627370496 := by
  simp [rightB, List.all_eq_true]
set_option maxHeartbeats 1000000 in
theorem right_c (g cap n : Nat) (hn : n ≤ 1000) (X : Nat → Fe.E) (hW : ∀ i, Fe.W (X i)) (w : World) (hg : g < w.heap.size) (hc : ∀ i, i < n → ∀ k, k < 5 → w.cell? ⟨g, i * 5 + k, none⟩ = some (.int .u64 (Fe.limb (X i) k))) :
    Calls Try.prog 18 #[.slice (some ⟨g, 0, none⟩) n cap] w (PostV (.bool (rightB n X)) w) := by
  go_enter Try.func18, Try.ntmps18
  go_wp2
  go_loopw [3] (fun i wr => ∃ m : Nat, m ≤ n ∧ i = .int .i64 m ∧ (∀ i, i < m → ∀ k, k < 5 → Fe.limb (X i) k < 4503599627370496) ∧ Below w.heap.size w wr) (fun i _ => (n - intOf i).toNat)
  case atStart => exact ⟨0, by omega, rfl, fun j h => absurd h (by omega), Below.refl _ _⟩
  case round =>
    obtain ⟨m, hm, hi, hI, hb⟩ := hrel
    subst hi
    have hIh := Lib.hid hI
    have hch := Lib.hid hc
    have hn0 : (n : Int) ≤ 1000 := by omega
    clear hI hc
    by_cases hmn : m = n
    · subst hmn
      clear hm
      go_wp2
      go_returns
      refine ⟨?_, hb⟩
      show Ending.returned (.bool true) = _
      rw [show rightB m X = true from (rightB_iff m X).2 hIh.out]
    · have hm' : (m : Int) < n := by omega
      have hm0 : (0 : Int) ≤ (m : Int) := by omega
      clear hm hmn
      go_wp2
      have hIm := hIh
      clear hIh
      go_loopw [4] (fun i wr => ∃ k : Nat, k ≤ 5 ∧ i = .int .i64 k ∧ (∀ k', k' < k → Fe.limb (X m) k' < 4503599627370496) ∧ Below w.heap.size w wr) (fun i _ => (5 - intOf i).toNat)
      case atStart => exact ⟨0, by omega, rfl, fun j h => absurd h (by omega), hb⟩
      case round =>
        obtain ⟨k, hk, hk', hK, hb2⟩ := hrel
        subst hk'
        replace hK := Lib.hid hK
        have hk0 : (0 : Int) ≤ (k : Int) := by omega
        by_cases h5 : k = 5
        · subst h5
          clear hk hk0
          go_wp2
          refine ⟨⟨m + 1, by omega, rfl, fun i hi => ?_, hb2⟩, by simp [intOf]; omega⟩
          by_cases e : i = m
          · rw [e]; exact hK.out
          · exact hIm.out i (by omega)
        · have hk5 : (k : Int) < 5 := by omega
          have cc := (hb2.cell (p := ⟨g, m * 5 + k, none⟩) hg).trans (hch.out m (by omega) k (by omega))
          have hl := limb_w (hW m) k
          generalize hlim : Fe.limb (X m) k = lm at cc hl
          by_cases hlt : lm < 4503599627370496
          · have hq : lm / 4503599627370496 = 0 := by omega
            clear hl hk h5
            go_wp2
            refine ⟨⟨k + 1, by omega, rfl, fun k' hk' => ?_, hb2⟩, by simp [intOf]; omega⟩
            by_cases e : k' = k
            · rw [e, hlim]; exact hlt
            · exact hK.out k' (by omega)
          · have hq : (lm / 4503599627370496 == 0) = false := by simp; omega
            clear hl hk h5
            go_wp2
            go_returns
            refine ⟨?_, hb2⟩
            show Ending.returned (.bool false) = _
            have : rightB n X = false := by
              rw [← Bool.not_eq_true, rightB_iff]
              intro h
              have := h m (by omega) k (by omega)
              rw [hlim] at this
              omega
            rw [this]
end Go.Proofs.Ytjejibojcjfleaa
