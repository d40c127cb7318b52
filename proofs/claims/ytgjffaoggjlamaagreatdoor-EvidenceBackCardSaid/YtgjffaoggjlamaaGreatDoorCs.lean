/- law05: SameBytes, Pick, seed, the example's seed, begins. -/
import Derived.Test.YtgjffaoggjlamaaGreatDoorYk
namespace Go.Proofs.YtgjffaoggjlamaaGreatDoor
open Go Go.RowKit
/-- are bytes the same? -/
def eqB (n : Nat) (a : Nat → Int) (m : Nat) (b : Nat → Int) : Bool := decide (n = m ∧ ∀ j, j < n → a j = b j)
set_option maxRecDepth 20000 in
set_option maxHeartbeats 4000000 in
theorem sameB_c (p1 p2 : Option Addr) (n1 c1 n2 c2 : Nat) (b1 b2 : Nat → Int) (hn : n1 ≤ 1000000) (hn2 : n2 ≤ 1000000) (w : World) (hXc : BAt w p1 n1 b1) (hYc : BAt w p2 n2 b2) :
    Calls Tryz.prog 28 #[.slice p1 n1 c1, .slice p2 n2 c2] w fun e w' => e = .returned (.bool (eqB n1 b1 n2 b2)) ∧ Below w.heap.size w w' := by
  have hne : n1 ≠ n2 → eqB n1 b1 n2 b2 = false := fun h => decide_eq_false (fun e => h e.1)
  have hyes : n1 = n2 → (∀ j, j < n1 → b1 j = b2 j) → eqB n1 b1 n2 b2 = true := fun e h => decide_eq_true ⟨e, h⟩
  have hno : ∀ j, j < n1 → b1 j ≠ b2 j → eqB n1 b1 n2 b2 = false := fun j hj h => decide_eq_false (fun e => h (e.2 j hj))
  generalize eqB n1 b1 n2 b2 = E at *
  replace hyes := Lib.hid hyes
  replace hno := Lib.hid hno
  replace hne := Lib.hid hne
  replace hXc := Lib.hid hXc
  replace hYc := Lib.hid hYc
  go_enter Tryz.func28, Tryz.ntmps28
  by_cases hn : n1 = n2
  · subst hn
    go_wp2
    go_loopw [5] (fun i wr => ∃ m : Nat, m ≤ n1 ∧ i = .int .i64 m ∧ (∀ j, j < m → b1 j = b2 j) ∧ Below w.heap.size w wr) (fun i _ => (n1 - intOf i).toNat)
    case atStart => exact ⟨0, by omega, rfl, fun j h => absurd h (by omega), Below.refl _ _⟩
    case round =>
      obtain ⟨m, hm, hi, hI, hb⟩ := hrel
      subst hi
      by_cases hmn : m = n1
      · subst hmn
        have he := hyes.out (by trivial) hI
        replace he := Lib.hid he
        clear hm hI
        go_wp2
        go_returns
        exact ⟨by rw [he.out]; rfl, hb⟩
      · have hm' : (m : Int) < n1 := by omega
        have hm0 : (0 : Int) ≤ (m : Int) := by omega
        have hn0 : (n1 : Int) ≤ 1000000 := by omega
        obtain ⟨g1, o1, rfl, hg1, hB1⟩ := hXc.out (by omega)
        obtain ⟨g2, o2, rfl, hg2, hB2⟩ := hYc.out (by omega)
        have ca := (hb.cell (p := ⟨g1, o1 + m, none⟩) hg1).trans (hB1 m (by omega))
        have cb := (hb.cell (p := ⟨g2, o2 + m, none⟩) hg2).trans (hB2 m (by omega))
        have hm2 : m + 1 ≤ n1 := by omega
        clear hB1 hB2 hXc hYc
        have hIh := Lib.hid hI
        clear hI
        by_cases he : b1 m = b2 m
        · replace he := Lib.hid he
          go_wp2
          go_region
          rw [he.out]
          go_wp2
          refine ⟨⟨m + 1, hm2, rfl, fun j hj => ?_, hb.drew⟩, by simp [intOf]; omega⟩
          by_cases e : j = m
          · rw [e]; exact he.out
          · exact hIh.out j (by omega)
        · have he2 : (b1 m == b2 m) = false := by simpa using he
          have hf := Lib.hid (hno.out m (by omega) he)
          go_wp2
          go_region
          simp only [he2, bne, Bool.not_false]
          go_wp2
          go_returns
          exact ⟨by rw [hf.out]; rfl, hb.drew⟩
  · have hn3 : ((n1 : Int) == (n2 : Int)) = false := by simp; omega
    have hf := Lib.hid (hne.out hn)
    go_wp2
    go_returns
    exact ⟨by rw [hf.out]; rfl, Below.refl _ _⟩
set_option maxRecDepth 20000 in
set_option maxHeartbeats 2000000 in
theorem pick_c (x : Int) (n : Nat) (h0 : 0 < n) (hn : n ≤ 1000000000) (w : World) : Calls Tryz.prog 16 #[.int .i64 x, .int .i64 n] w fun e w' => ∃ k : Nat, e = .returned (.int .i64 k) ∧ k < n ∧ w' = w := by
  have ht : -(n : Int) < x.tmod n ∧ x.tmod n < n := by
    have h1 := Int.tmod_lt_of_pos x (show (0 : Int) < n by omega)
    have h2 : -(n : Int) < x.tmod n := by
      have h3 := Int.tmod_lt_of_pos (-x) (show (0 : Int) < n by omega)
      rw [Int.neg_tmod] at h3
      omega
    exact ⟨h2, h1⟩
  obtain ⟨r, hr⟩ : ∃ r, r = x.tmod n := ⟨_, rfl⟩
  rw [← hr] at ht
  have hw : IntKind.i64.wrap r = r := by rw [IntKind.wrap_i64]; omega
  have hw5 : IntKind.i64.wrap (r + n) = r + n := by rw [IntKind.wrap_i64]; omega
  have hz : ¬ (n : Int) = 0 := by omega
  have hz1 : ¬ (n : Int) < 1 := by omega
  go_enter Tryz.func16, Tryz.ntmps16
  by_cases hn : r < 0
  · go_wp2
    rw [← hr]
    go_returns
    exact ⟨(r + n).toNat, by rw [Int.toNat_of_nonneg (by omega)]; rfl, by omega, rfl⟩
  · go_wp2
    rw [← hr]
    go_returns
    exact ⟨r.toNat, by rw [Int.toNat_of_nonneg (by omega)]; rfl, by omega, rfl⟩
def seed0L : List Int := [0x9d, 0x61, 0xb1, 0x9d, 0xef, 0xfd, 0x5a, 0x60, 0xba, 0x84, 0x4a, 0xf4, 0x92, 0xec, 0x2c, 0xc4, 0x44, 0x49, 0xc5, 0x69, 0x7b, 0x32, 0x69, 0x19, 0x70, 0x3b, 0xac, 0x03, 0x1c, 0xae, 0x7f, 0x60]
def seed0F (j : Nat) : Int := seed0L.getD j 0
theorem RowB.bat {w : World} {g n c : Nat} {f : Nat → Int} (h : RowB w g n c f) {m : Nat} (hm : m ≤ n) : BAt w (some ⟨g, 0, none⟩) m f := fun _ => ⟨g, 0, rfl, h.lt, fun j hj => by rw [Nat.zero_add]; exact h.cell j (by omega)⟩
end Go.Proofs.YtgjffaoggjlamaaGreatDoor
