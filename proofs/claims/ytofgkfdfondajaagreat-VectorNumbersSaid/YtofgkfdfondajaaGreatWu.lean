/- The walks of slices.IndexFunc and ContainsFunc over dots. -/
import Derived.Test.YtofgkfdfondajaaGreatWt
namespace Go.Proofs.YtofgkfdfondajaaGreat
open Go.RowKit
/-- does F hold of one of the dots? -/
def anyF (F : Int → Int → Bool) (n : Nat) (D : Nat → Int) : Bool := decide (∃ i, i < n ∧ F (D (i * 2)) (D (i * 2 + 1)) = true)
set_option maxRecDepth 20000 in
set_option maxHeartbeats 4000000 in
theorem indexV_c (cb : Nat) (F : Int → Int → Bool) (p : Option Addr) (n c : Nat) (D : Nat → Int) (hn : n ≤ 1000000) (w : World) (hD : DotsAt w p n D)
    (hF : ∀ x y w', Below w.heap.size w w' → Calls Tryz.prog 62 #[.agg #[.int .i64 x, .int .i64 y], .pointer (some ⟨cb, 0, none⟩)] w' fun e w2 => e = .returned (.bool (F x y)) ∧ Below w'.heap.size w' w2) :
    Calls Tryz.prog 36 #[.slice p n c, .func (.func 62) #[] #[.pointer (some ⟨cb, 0, none⟩)]] w fun e w' => (∃ r : Int, e = .returned (.int .i64 r) ∧ decide (0 ≤ r) = anyF F n D) ∧ Below w.heap.size w w' := by
  replace hF := Lib.hid hF
  go_enter Tryz.func36, Tryz.ntmps36
  go_wp2
  go_loopw [8] (fun i wr => ∃ k : Nat, k ≤ n ∧ i = .int .i64 k ∧ Below w.heap.size w wr ∧ ∀ i, i < k → F (D (i * 2)) (D (i * 2 + 1)) = false) (fun i _ => (n - intOf i).toNat)
  case atStart => exact ⟨0, by omega, rfl, Below.refl _ _, fun i hi => absurd hi (by omega)⟩
  case round =>
    obtain ⟨k, hk, hi, hb, hK⟩ := hrel
    subst hi
    by_cases he : k = n
    · subst he
      have hr : decide ((0 : Int) ≤ -1) = anyF F k D := by
        have : anyF F k D = false := decide_eq_false (fun ⟨i, hi, h⟩ => by rw [hK i hi] at h; cases h)
        rw [this]
        decide
      replace hr := Lib.hid hr
      clear hK hk
      go_wp2
      go_returns
      exact ⟨⟨-1, rfl, hr.out⟩, hb⟩
    · have hk0 : (0 : Int) ≤ (k : Int) := by omega
      have hk1 : (k : Int) < (n : Int) := by omega
      have hk2 : k < n := by omega
      obtain ⟨g, o, rfl, hg, hc⟩ := (hD.below hb) (by omega)
      have c0 : wr.cell? ⟨g, o + k * 2, none⟩ = some (.int .i64 (D (k * 2))) := hc (k * 2) (by omega)
      have c1 : wr.cell? ⟨g, o + k * 2 + 1, none⟩ = some (.int .i64 (D (k * 2 + 1))) := by rw [Nat.add_assoc]; exact hc (k * 2 + 1) (by omega)
      have hyes : F (D (k * 2)) (D (k * 2 + 1)) = true → decide ((0 : Int) ≤ (k : Int)) = anyF F n D := fun h => by
        rw [show anyF F n D = true from decide_eq_true ⟨k, hk2, h⟩]
        exact decide_eq_true hk0
      have hnx : F (D (k * 2)) (D (k * 2 + 1)) = false → ∀ i, i < k + 1 → F (D (i * 2)) (D (i * 2 + 1)) = false := fun h i hi => by
        by_cases e : i = k
        · rw [e]; exact h
        · exact hK i (by omega)
      have hf := hF.out (D (k * 2)) (D (k * 2 + 1)) wr hb
      replace hf := Lib.hid hf
      replace hyes := Lib.hid hyes
      replace hnx := Lib.hid hnx
      clear hK hc hF
      generalize D (k * 2) = x at *
      generalize D (k * 2 + 1) = y at *
      go_wp2_with fail
      refine hf.out.mono ?_
      rintro e w2 ⟨rfl, hb2⟩
      have hb3 : Below w.heap.size w w2 := hb.trans (hb2.mono hb.size)
      cases hr : F x y
      · have hn2 := Lib.hid (hnx.out hr)
        clear hr hnx hyes hf c0 c1
        go_wp2
        exact ⟨⟨k + 1, by omega, rfl, hb3, hn2.out⟩, by simp [intOf]; omega⟩
      · have hn2 := Lib.hid (hyes.out hr)
        clear hr hnx hyes hf c0 c1
        go_wp2
        go_returns
        exact ⟨⟨_, rfl, hn2.out⟩, hb3⟩
set_option maxRecDepth 20000 in
set_option maxHeartbeats 4000000 in
theorem containsV_c (cb : Nat) (F : Int → Int → Bool) (p : Option Addr) (n c : Nat) (D : Nat → Int) (hn : n ≤ 1000000) (w : World) (hD : DotsAt w p n D)
    (hF : ∀ x y w', Below w.heap.size w w' → Calls Tryz.prog 62 #[.agg #[.int .i64 x, .int .i64 y], .pointer (some ⟨cb, 0, none⟩)] w' fun e w2 => e = .returned (.bool (F x y)) ∧ Below w'.heap.size w' w2) :
    Calls Tryz.prog 20 #[.slice p n c, .func (.func 62) #[] #[.pointer (some ⟨cb, 0, none⟩)]] w fun e w' => e = .returned (.bool (anyF F n D)) ∧ Below w.heap.size w w' := by
  have hi := indexV_c cb F p n c D hn w hD hF
  replace hi := Lib.hid hi
  clear hF hD
  go_enter Tryz.func20, Tryz.ntmps20
  go_wp2_with fail
  refine hi.out.mono ?_
  rintro e w2 ⟨⟨r, rfl, hr⟩, hb2⟩
  replace hr := Lib.hid hr
  clear hi
  go_wp2
  go_returns
  exact ⟨by rw [← hr.out]; rfl, hb2⟩
set_option maxRecDepth 20000 in
set_option maxHeartbeats 4000000 in
theorem indexA_c (F : Int → Int → Bool) (p : Option Addr) (n c : Nat) (D : Nat → Int) (hn : n ≤ 1000000) (w : World) (hD : DotsAt w p n D)
    (hF : ∀ x y w', Below w.heap.size w w' → Calls Tryz.prog 21 #[.agg #[.int .i64 x, .int .i64 y]] w' fun e w2 => e = .returned (.bool (F x y)) ∧ Below w'.heap.size w' w2) :
    Calls Tryz.prog 36 #[.slice p n c, .func (.func 21) #[] #[]] w fun e w' => (∃ r : Int, e = .returned (.int .i64 r) ∧ decide (0 ≤ r) = anyF F n D) ∧ Below w.heap.size w w' := by
  replace hF := Lib.hid hF
  go_enter Tryz.func36, Tryz.ntmps36
  go_wp2
  go_loopw [8] (fun i wr => ∃ k : Nat, k ≤ n ∧ i = .int .i64 k ∧ Below w.heap.size w wr ∧ ∀ i, i < k → F (D (i * 2)) (D (i * 2 + 1)) = false) (fun i _ => (n - intOf i).toNat)
  case atStart => exact ⟨0, by omega, rfl, Below.refl _ _, fun i hi => absurd hi (by omega)⟩
  case round =>
    obtain ⟨k, hk, hi, hb, hK⟩ := hrel
    subst hi
    by_cases he : k = n
    · subst he
      have hr : decide ((0 : Int) ≤ -1) = anyF F k D := by
        have : anyF F k D = false := decide_eq_false (fun ⟨i, hi, h⟩ => by rw [hK i hi] at h; cases h)
        rw [this]
        decide
      replace hr := Lib.hid hr
      clear hK hk
      go_wp2
      go_returns
      exact ⟨⟨-1, rfl, hr.out⟩, hb⟩
    · have hk0 : (0 : Int) ≤ (k : Int) := by omega
      have hk1 : (k : Int) < (n : Int) := by omega
      have hk2 : k < n := by omega
      obtain ⟨g, o, rfl, hg, hc⟩ := (hD.below hb) (by omega)
      have c0 : wr.cell? ⟨g, o + k * 2, none⟩ = some (.int .i64 (D (k * 2))) := hc (k * 2) (by omega)
      have c1 : wr.cell? ⟨g, o + k * 2 + 1, none⟩ = some (.int .i64 (D (k * 2 + 1))) := by rw [Nat.add_assoc]; exact hc (k * 2 + 1) (by omega)
      have hyes : F (D (k * 2)) (D (k * 2 + 1)) = true → decide ((0 : Int) ≤ (k : Int)) = anyF F n D := fun h => by
        rw [show anyF F n D = true from decide_eq_true ⟨k, hk2, h⟩]
        exact decide_eq_true hk0
      have hnx : F (D (k * 2)) (D (k * 2 + 1)) = false → ∀ i, i < k + 1 → F (D (i * 2)) (D (i * 2 + 1)) = false := fun h i hi => by
        by_cases e : i = k
        · rw [e]; exact h
        · exact hK i (by omega)
      have hf := hF.out (D (k * 2)) (D (k * 2 + 1)) wr hb
      replace hf := Lib.hid hf
      replace hyes := Lib.hid hyes
      replace hnx := Lib.hid hnx
      clear hK hc hF
      generalize D (k * 2) = x at *
      generalize D (k * 2 + 1) = y at *
      go_wp2_with fail
      refine hf.out.mono ?_
      rintro e w2 ⟨rfl, hb2⟩
      have hb3 : Below w.heap.size w w2 := hb.trans (hb2.mono hb.size)
      cases hr : F x y
      · have hn2 := Lib.hid (hnx.out hr)
        clear hr hnx hyes hf c0 c1
        go_wp2
        exact ⟨⟨k + 1, by omega, rfl, hb3, hn2.out⟩, by simp [intOf]; omega⟩
      · have hn2 := Lib.hid (hyes.out hr)
        clear hr hnx hyes hf c0 c1
        go_wp2
        go_returns
        exact ⟨⟨_, rfl, hn2.out⟩, hb3⟩
set_option maxRecDepth 20000 in
set_option maxHeartbeats 4000000 in
theorem containsA_c (F : Int → Int → Bool) (p : Option Addr) (n c : Nat) (D : Nat → Int) (hn : n ≤ 1000000) (w : World) (hD : DotsAt w p n D)
    (hF : ∀ x y w', Below w.heap.size w w' → Calls Tryz.prog 21 #[.agg #[.int .i64 x, .int .i64 y]] w' fun e w2 => e = .returned (.bool (F x y)) ∧ Below w'.heap.size w' w2) :
    Calls Tryz.prog 20 #[.slice p n c, .func (.func 21) #[] #[]] w fun e w' => e = .returned (.bool (anyF F n D)) ∧ Below w.heap.size w w' := by
  have hi := indexA_c F p n c D hn w hD hF
  replace hi := Lib.hid hi
  clear hF hD
  go_enter Tryz.func20, Tryz.ntmps20
  go_wp2_with fail
  refine hi.out.mono ?_
  rintro e w2 ⟨⟨r, rfl, hr⟩, hb2⟩
  replace hr := Lib.hid hr
  clear hi
  go_wp2
  go_returns
  exact ⟨by rw [← hr.out]; rfl, hb2⟩
end Go.Proofs.YtofgkfdfondajaaGreat
