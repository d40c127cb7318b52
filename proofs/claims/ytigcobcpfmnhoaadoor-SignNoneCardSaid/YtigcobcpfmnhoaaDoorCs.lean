/- law05: SameBytes, Pick, seed, the example's seed, begins. -/
import Derived.Test.YtigcobcpfmnhoaaDoorYk
namespace Go.Proofs.YtigcobcpfmnhoaaDoor
open Go Go.RowKit
/-- are bytes the same? -/
def eqB (n : Nat) (a : Nat → Int) (m : Nat) (b : Nat → Int) : Bool := decide (n = m ∧ ∀ j, j < n → a j = b j)
set_option maxRecDepth 20000 in
set_option maxHeartbeats 4000000 in
theorem sameB_c (p1 p2 : Option Addr) (n1 c1 n2 c2 : Nat) (b1 b2 : Nat → Int) (hn : n1 ≤ 1000000) (hn2 : n2 ≤ 1000000) (w : World) (hXc : BAt w p1 n1 b1) (hYc : BAt w p2 n2 b2) :
    Calls Tryd.prog 25 #[.slice p1 n1 c1, .slice p2 n2 c2] w fun e w' => e = .returned (.bool (eqB n1 b1 n2 b2)) ∧ Below w.heap.size w w' := by
  have hne : n1 ≠ n2 → eqB n1 b1 n2 b2 = false := fun h => decide_eq_false (fun e => h e.1)
  have hyes : n1 = n2 → (∀ j, j < n1 → b1 j = b2 j) → eqB n1 b1 n2 b2 = true := fun e h => decide_eq_true ⟨e, h⟩
  have hno : ∀ j, j < n1 → b1 j ≠ b2 j → eqB n1 b1 n2 b2 = false := fun j hj h => decide_eq_false (fun e => h (e.2 j hj))
  generalize eqB n1 b1 n2 b2 = E at *
  replace hyes := Lib.hid hyes
  replace hno := Lib.hid hno
  replace hne := Lib.hid hne
  replace hXc := Lib.hid hXc
  replace hYc := Lib.hid hYc
  go_enter Tryd.func25, Tryd.ntmps25
  by_cases hn : n1 = n2
  · subst hn
    go_wp2
    go_loopw [5] (fun i wr => ∃ m : Nat, m ≤ n1 ∧ i = .int .i64 m ∧ (∀ j, j < m → b1 j = b2 j) ∧ Below w.heap.size w wr) (fun i _ => (n1 - intOf i).toNat)
    case atStart => exact ⟨0, by omega, rfl, fun j h => absurd h (by omega), Below.refl _ _⟩
    case round =>
      obtain ⟨m, hm, hi, hI, hb⟩ := hrel
      subst hi
      by_cases hmn : m = n1
      · subst hmn
        have he := hyes.out (by trivial) hI
        replace he := Lib.hid he
        clear hm hI
        go_wp2
        go_returns
        exact ⟨by rw [he.out]; rfl, hb⟩
      · have hm' : (m : Int) < n1 := by omega
        have hm0 : (0 : Int) ≤ (m : Int) := by omega
        have hn0 : (n1 : Int) ≤ 1000000 := by omega
        obtain ⟨g1, o1, rfl, hg1, hB1⟩ := hXc.out (by omega)
        obtain ⟨g2, o2, rfl, hg2, hB2⟩ := hYc.out (by omega)
        have ca := (hb.cell (p := ⟨g1, o1 + m, none⟩) hg1).trans (hB1 m (by omega))
        have cb := (hb.cell (p := ⟨g2, o2 + m, none⟩) hg2).trans (hB2 m (by omega))
        have hm2 : m + 1 ≤ n1 := by omega
        clear hB1 hB2 hXc hYc
        have hIh := Lib.hid hI
        clear hI
        by_cases he : b1 m = b2 m
        · replace he := Lib.hid he
          go_wp2
          go_region
          rw [he.out]
          go_wp2
          refine ⟨⟨m + 1, hm2, rfl, fun j hj => ?_, hb.drew⟩, by simp [intOf]; omega⟩
          by_cases e : j = m
          · rw [e]; exact he.out
          · exact hIh.out j (by omega)
        · have he2 : (b1 m == b2 m) = false := by simpa using he
          have hf := Lib.hid (hno.out m (by omega) he)
          go_wp2
          go_region
          simp only [he2, bne, Bool.not_false]
          go_wp2
          go_returns
          exact ⟨by rw [hf.out]; rfl, hb.drew⟩
  · have hn3 : ((n1 : Int) == (n2 : Int)) = false := by simp; omega
    have hf := Lib.hid (hne.out hn)
    go_wp2
    go_returns
    exact ⟨by rw [hf.out]; rfl, Below.refl _ _⟩
set_option maxRecDepth 20000 in
set_option maxHeartbeats 2000000 in
theorem pick_c (x : Int) (n : Nat) (h0 : 0 < n) (hn : n ≤ 1000000000) (w : World) : Calls Tryd.prog 26 #[.int .i64 x, .int .i64 n] w fun e w' => ∃ k : Nat, e = .returned (.int .i64 k) ∧ k < n ∧ w' = w := by
  have ht : -(n : Int) < x.tmod n ∧ x.tmod n < n := by
    have h1 := Int.tmod_lt_of_pos x (show (0 : Int) < n by omega)
    have h2 : -(n : Int) < x.tmod n := by
      have h3 := Int.tmod_lt_of_pos (-x) (show (0 : Int) < n by omega)
      rw [Int.neg_tmod] at h3
      omega
    exact ⟨h2, h1⟩
  obtain ⟨r, hr⟩ : ∃ r, r = x.tmod n := ⟨_, rfl⟩
  rw [← hr] at ht
  have hw : IntKind.i64.wrap r = r := by rw [IntKind.wrap_i64]; omega
  have hw5 : IntKind.i64.wrap (r + n) = r + n := by rw [IntKind.wrap_i64]; omega
  have hz : ¬ (n : Int) = 0 := by omega
  have hz1 : ¬ (n : Int) < 1 := by omega
  go_enter Tryd.func26, Tryd.ntmps26
  by_cases hn : r < 0
  · go_wp2
    rw [← hr]
    go_returns
    exact ⟨(r + n).toNat, by rw [Int.toNat_of_nonneg (by omega)]; rfl, by omega, rfl⟩
  · go_wp2
    rw [← hr]
    go_returns
    exact ⟨r.toNat, by rw [Int.toNat_of_nonneg (by omega)]; rfl, by omega, rfl⟩
set_option maxRecDepth 20000 in
set_option maxHeartbeats 4000000 in
theorem seed_c (p : Option Addr) (n c : Nat) (b : Nat → Int) (hn : n ≤ 100) (w : World) (hB : BAt w p n b) : Calls Tryd.prog 19 #[.slice p n c] w (PostBs 32 (foldB b n) w) := by
  have hmk : ∀ w, (Instr.makeSlice 22 (.int .i64 32) (.int .i64 32)).run Tryd.prog w = .ok (.slice (some ⟨w.heap.size, 0, none⟩) 32 32) (w.alloc (.cells (List.replicate 32 (.int .u8 0)).toArray 5)) := fun _ => by kernel_rfl
  go_enter Tryd.func19, Tryd.ntmps19
  go_wp2
  refine at_world (fun W0 hW => ?_)
  have hR : RowB W0 w.heap.size 32 32 (foldB b 0) := by
    rw [hW]
    exact ⟨_, heap_alloc_new w _, Nat.le_refl _, by unfold maxLen; decide, rfl, by unfold foldB; kernel_rfl⟩
  have hb0 : Below w.heap.size w W0 := by rw [hW]; exact (Below.refl _ _).alloc (Nat.le_refl _) _
  clear hW hmk
  obtain ⟨G, hG⟩ : ∃ G, G = w.heap.size := ⟨_, rfl⟩
  rw [← hG] at hR ⊢
  have lo : w.heap.size ≤ G := by omega
  clear hG
  replace hB := Lib.hid hB
  go_loopw [4] (fun i wr => ∃ k : Nat, k ≤ n ∧ i = .int .i64 k ∧ RowB wr G 32 32 (foldB b k) ∧ Below w.heap.size w wr) (fun i _ => (n - intOf i).toNat)
  case atStart => exact ⟨0, by omega, rfl, hR, hb0⟩
  case round =>
    clear hR hb0
    obtain ⟨k, hk, hi, hR, hb⟩ := hrel
    subst hi
    by_cases he : k = n
    · subst he
      have hP := Lib.hid (show PostBs 32 (foldB b k) w (.returned (.slice (some ⟨G, 0, none⟩) 32 32)) wr from ⟨G, 32, rfl, lo, hR, hb⟩)
      have hk100 : (k : Int) ≤ 100 := by omega
      clear hR hb
      go_wp2
      go_returns
      exact hP.out
    have hk0 : (0 : Int) ≤ (k : Int) := by omega
    have hk1 : (k : Int) < (n : Int) := by omega
    have hk100 : (k : Int) < 100 := by omega
    obtain ⟨g, o, rfl, hg, hc⟩ := hB.out (by omega)
    have c1 : wr.cell? ⟨g, o + k, none⟩ = some (.int .u8 (b k)) := (hb.cell (p := ⟨g, o + k, none⟩) hg).trans (hc k (by omega))
    have c0 := hR.cell (k % 32) (by omega)
    have hf := hR.frozen (k % 32)
    have hm0 : (0 : Int) ≤ (k : Int) % 32 := by omega
    have hm1 : (k : Int) % 32 < 32 := by omega
    have hx : foldB b (k + 1) = fun j => if j = k % 32 then bits .xor .u8 (foldB b k (k % 32)) (b k) else foldB b k j := rfl
    have hst := Lib.hid (hR.set_ (k % 32) (by omega) (bits .xor .u8 (foldB b k (k % 32)) (b k)))
    rw [← hx] at hst
    clear hx hc
    have hb2 := Lib.hid (hb.setCell (p := ⟨G, k % 32, none⟩) lo (.int .u8 (bits .xor .u8 (foldB b k (k % 32)) (b k))))
    clear hR hb
    go_wp2
    go_region
    obtain ⟨w3, hw⟩ : ∃ w', w' = (wr.setCell ⟨G, k % 32, none⟩ (.int .u8 (bits .xor .u8 (foldB b k (k % 32)) (b k)))).drew := ⟨_, rfl⟩
    rw [← hw]
    have hR3 : RowB w3 G 32 32 (foldB b (k + 1)) := by rw [hw]; exact hst.out
    have hb3 : Below w.heap.size w w3 := by rw [hw]; exact hb2.out.drew
    clear hw hst hb2 c0 c1 hf hm0 hm1
    go_wp2
    go_roundw
    case rel => exact ⟨k + 1, by omega, by simp, hR3, hb3⟩
    case measure => simp [intOf]; omega
def seed0L : List Int := [0x9d, 0x61, 0xb1, 0x9d, 0xef, 0xfd, 0x5a, 0x60, 0xba, 0x84, 0x4a, 0xf4, 0x92, 0xec, 0x2c, 0xc4, 0x44, 0x49, 0xc5, 0x69, 0x7b, 0x32, 0x69, 0x19, 0x70, 0x3b, 0xac, 0x03, 0x1c, 0xae, 0x7f, 0x60]
def seed0F (j : Nat) : Int := seed0L.getD j 0
set_option maxRecDepth 20000 in
set_option maxHeartbeats 2000000 in
theorem seed0_c (w : World) : Calls Tryd.prog 41 #[] w (PostBs 32 seed0F w) := by
  go_enter Tryd.func41, Tryd.ntmps41
  go_wp2
  go_returns
  exact ⟨w.heap.size, 32, rfl, Nat.le_refl _, ⟨_, heap_alloc_new w _, Nat.le_refl _, by unfold maxLen; decide, rfl, by kernel_rfl⟩, (Below.refl _ _).alloc (Nat.le_refl _) _⟩
theorem RowB.bat {w : World} {g n c : Nat} {f : Nat → Int} (h : RowB w g n c f) {m : Nat} (hm : m ≤ n) : BAt w (some ⟨g, 0, none⟩) m f := fun _ => ⟨g, 0, rfl, h.lt, fun j hj => by rw [Nat.zero_add]; exact h.cell j (by omega)⟩
set_option maxRecDepth 20000 in
set_option maxHeartbeats 2000000 in
theorem begins_c (g c : Nat) (n : Nat) (f : Nat → Int) (g2 : Nat) (x : Nat → Int) (w : World) (hn4 : 4 ≤ n) (hn : n ≤ 1000) (hR : RowB w g n c f) (hg2 : g2 < w.heap.size) (hx : ∀ j, j < 4 → w.cell? ⟨g2, 0 + j, none⟩ = some (.int .u8 (x j))) (he : ∀ j, j < 4 → f j = x j) : Calls Tryd.prog 42 #[.slice (some ⟨g, 0, none⟩) n c, .int .i64 n, .slice (some ⟨g2, 0, none⟩) 4 4] w fun e w' => e = .returned (.bool true) ∧ Below w.heap.size w w' := by
  obtain ⟨cur, _, hnc, _⟩ := id hR
  have hs := sameB_c (some ⟨g, 0, none⟩) (some ⟨g2, 0, none⟩) 4 c 4 4 f x (by decide) (by decide) w (hR.bat hn4) (fun _ => ⟨g2, 0, rfl, hg2, hx⟩)
  rw [show eqB 4 f 4 x = true from decide_eq_true ⟨rfl, he⟩] at hs
  replace hs := Lib.hid hs
  have h4 : (4 : Int) ≤ (c : Int) := by omega
  clear hx he hR
  go_enter Tryd.func42, Tryd.ntmps42
  go_wp2_with fail
  refine hs.out.mono ?_
  rintro e w2 ⟨rfl, hb⟩
  replace hb := Lib.hid hb
  go_wp2_with fail
  go_returns
  exact ⟨rfl, hb.out⟩
end Go.Proofs.YtigcobcpfmnhoaaDoor
