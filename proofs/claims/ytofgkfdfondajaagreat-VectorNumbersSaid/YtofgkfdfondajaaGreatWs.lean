/- The walk of SameDots, for a seat without wire. -/
import Derived.Test.YtofgkfdfondajaaGreatWq
namespace Go.Proofs.YtofgkfdfondajaaGreat
open Go.RowKit
theorem ext_getD {xs ys : List Int} (hl : xs.length = ys.length) (h : ∀ j, j < xs.length → xs.getD j 0 = ys.getD j 0) : xs = ys := by
  apply List.ext_getElem hl
  intro j h1 h2
  have := h j h1
  simpa [h1, h2] using this
def eqL (xs ys : List Int) : Bool := decide (xs = ys)
/-- dots lie at p: two numbers a dot -/
def DotsL (w : World) (p : Option Addr) (n : Nat) (ds : List Int) : Prop := ds.length = 2 * n ∧ DotsAt w p n (fun j => ds.getD j 0)
theorem DotsL.below {w w' : World} {p : Option Addr} {n : Nat} {ds : List Int} (h : DotsL w p n ds) (hb : Below w.heap.size w w') : DotsL w' p n ds := ⟨h.1, h.2.below hb⟩
set_option maxRecDepth 20000 in
set_option maxHeartbeats 4000000 in
theorem sameDots_c (p1 p2 : Option Addr) (n1 c1 n2 c2 : Nat) (xs ys : List Int) (hn : n1 ≤ 1000000) (hn2 : n2 ≤ 1000000) (w : World) (hX : DotsL w p1 n1 xs) (hY : DotsL w p2 n2 ys) :
    Calls Tryz.prog 10 #[.slice p1 n1 c1, .slice p2 n2 c2] w fun e w' => e = .returned (.bool (eqL xs ys)) ∧ Below w.heap.size w w' := by
  have h1 := hX.1
  have h2 := hY.1
  have hne : n1 ≠ n2 → eqL xs ys = false := fun h => decide_eq_false (fun e => h (by rw [e] at h1; omega))
  have hyes : n1 = n2 → (∀ j, j < n1 → xs.getD (j * 2) 0 = ys.getD (j * 2) 0 ∧ xs.getD (j * 2 + 1) 0 = ys.getD (j * 2 + 1) 0) → eqL xs ys = true := fun e h => decide_eq_true (ext_getD (by omega) (fun j hj => by
    have hq := h (j / 2) (by omega)
    rcases Nat.mod_two_eq_zero_or_one j with hm | hm
    · rw [show j = j / 2 * 2 by omega]; exact hq.1
    · rw [show j = j / 2 * 2 + 1 by omega]; exact hq.2))
  have hno : ∀ j, xs.getD j 0 ≠ ys.getD j 0 → eqL xs ys = false := fun j h => decide_eq_false (fun e => h (by rw [e]))
  have hXc : 0 < n1 → ∃ g o, p1 = some ⟨g, o, none⟩ ∧ g < w.heap.size ∧ ∀ j, j < 2 * n1 → w.cell? ⟨g, o + j, none⟩ = some (.int .i64 (xs.getD j 0)) := fun h => hX.2 (by omega)
  have hYc : 0 < n2 → ∃ g o, p2 = some ⟨g, o, none⟩ ∧ g < w.heap.size ∧ ∀ j, j < 2 * n2 → w.cell? ⟨g, o + j, none⟩ = some (.int .i64 (ys.getD j 0)) := fun h => hY.2 (by omega)
  generalize eqL xs ys = E at *
  obtain ⟨b1, hb1⟩ : ∃ b : Nat → Int, b = fun j => xs.getD j 0 := ⟨_, rfl⟩
  obtain ⟨b2, hb2⟩ : ∃ b : Nat → Int, b = fun j => ys.getD j 0 := ⟨_, rfl⟩
  replace hyes : n1 = n2 → (∀ j, j < n1 → b1 (j * 2) = b2 (j * 2) ∧ b1 (j * 2 + 1) = b2 (j * 2 + 1)) → E = true := by rw [hb1, hb2]; exact hyes
  replace hno : ∀ j, b1 j ≠ b2 j → E = false := by rw [hb1, hb2]; exact hno
  replace hXc : 0 < n1 → ∃ g o, p1 = some ⟨g, o, none⟩ ∧ g < w.heap.size ∧ ∀ j, j < 2 * n1 → w.cell? ⟨g, o + j, none⟩ = some (.int .i64 (b1 j)) := by rw [hb1]; exact hXc
  replace hYc : 0 < n2 → ∃ g o, p2 = some ⟨g, o, none⟩ ∧ g < w.heap.size ∧ ∀ j, j < 2 * n2 → w.cell? ⟨g, o + j, none⟩ = some (.int .i64 (b2 j)) := by rw [hb2]; exact hYc
  clear hX hY h1 h2 hb1 hb2
  replace hyes := Lib.hid hyes
  replace hno := Lib.hid hno
  replace hne := Lib.hid hne
  replace hXc := Lib.hid hXc
  replace hYc := Lib.hid hYc
  go_enter Tryz.func10, Tryz.ntmps10
  by_cases hn : n1 = n2
  · subst hn
    go_wp2
    go_loopw [5] (fun i wr => ∃ m : Nat, m ≤ n1 ∧ i = .int .i64 m ∧ (∀ j, j < m → b1 (j * 2) = b2 (j * 2) ∧ b1 (j * 2 + 1) = b2 (j * 2 + 1)) ∧ Below w.heap.size w wr) (fun i _ => (n1 - intOf i).toNat)
    case atStart => exact ⟨0, by omega, rfl, fun j h => absurd h (by omega), Below.refl _ _⟩
    case round =>
      obtain ⟨m, hm, hi, hI, hb⟩ := hrel
      subst hi
      by_cases hmn : m = n1
      · subst hmn
        have he := hyes.out (by trivial) hI
        replace he := Lib.hid he
        clear hm hI
        go_wp2
        go_returns
        exact ⟨by rw [he.out]; rfl, hb⟩
      · have hm' : (m : Int) < n1 := by omega
        have hm0 : (0 : Int) ≤ (m : Int) := by omega
        have hn0 : (n1 : Int) ≤ 1000000 := by omega
        obtain ⟨g1, o1, rfl, hg1, hB1⟩ := hXc.out (by omega)
        obtain ⟨g2, o2, rfl, hg2, hB2⟩ := hYc.out (by omega)
        have ca := (hb.cell (p := ⟨g1, o1 + m * 2, none⟩) hg1).trans (hB1 (m * 2) (by omega))
        have cb := (hb.cell (p := ⟨g2, o2 + m * 2, none⟩) hg2).trans (hB2 (m * 2) (by omega))
        have ca1 := (hb.cell (p := ⟨g1, o1 + (m * 2 + 1), none⟩) hg1).trans (hB1 (m * 2 + 1) (by omega))
        have cb1 := (hb.cell (p := ⟨g2, o2 + (m * 2 + 1), none⟩) hg2).trans (hB2 (m * 2 + 1) (by omega))
        rw [← Nat.add_assoc] at ca1 cb1
        have hm2 : m + 1 ≤ n1 := by omega
        clear hB1 hB2 hXc hYc
        have hIh := Lib.hid hI
        clear hI
        have hf := hno.out (m * 2)
        have hf1 := hno.out (m * 2 + 1)
        replace hf := Lib.hid hf
        replace hf1 := Lib.hid hf1
        have hI2 : b1 (m * 2) = b2 (m * 2) → b1 (m * 2 + 1) = b2 (m * 2 + 1) → ∀ j, j < m + 1 → b1 (j * 2) = b2 (j * 2) ∧ b1 (j * 2 + 1) = b2 (j * 2 + 1) := fun h1 h2 j hj => by
          by_cases e : j = m
          · rw [e]; exact ⟨h1, h2⟩
          · exact hIh.out j (by omega)
        replace hI2 := Lib.hid hI2
        clear hno hyes hne
        generalize b1 (m * 2) = x at *
        generalize b1 (m * 2 + 1) = y at *
        generalize b2 (m * 2) = x' at *
        generalize b2 (m * 2 + 1) = y' at *
        by_cases hx : x = x'
        · by_cases hy : y = y'
          · subst hx hy
            have hI3 := Lib.hid (hI2.out rfl rfl)
            clear hI2 hf hf1
            go_wp2
            go_region
            go_wp2
            exact ⟨⟨m + 1, hm2, rfl, hI3.out, hb.drew⟩, by simp [intOf]; omega⟩
          · have hE := Lib.hid (hf1.out hy)
            subst hx
            clear hI2 hf hf1
            go_wp2
            go_region
            go_wp2
            go_returns
            exact ⟨by rw [hE.out]; rfl, hb.drew⟩
        · have hE := Lib.hid (hf.out hx)
          clear hI2 hf hf1
          go_wp2
          go_region
          go_wp2
          go_returns
          exact ⟨by rw [hE.out]; rfl, hb.drew⟩
  · have hn3 : ((n1 : Int) == (n2 : Int)) = false := by simp; omega
    have hf := Lib.hid (hne.out hn)
    go_wp2
    go_returns
    exact ⟨by rw [hf.out]; rfl, Below.refl _ _⟩
end Go.Proofs.YtofgkfdfondajaaGreat
