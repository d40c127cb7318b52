/- Vectors as numbers of clients: plain. -/
import Derived.Test.YtiimojhdpmkeoaaGreatVb
namespace Go.Proofs.YtiimojhdpmkeoaaGreat
/-- what a vector says of a client: its number, or 0 -/
def valD : Nat → (Nat → Int) → Int → Int
  | 0, _, _ => 0
  | n + 1, D, c => if D (n * 2) = c then D (n * 2 + 1) else valD n D c
theorem RightD.cut {n m : Nat} {D : Nat → Int} (h : RightD n D) (hm : m ≤ n) : RightD m D := fun i hi => h i (by omega)
theorem RightD.pos {n : Nat} {D : Nat → Int} (h : RightD n D) {i : Nat} (hi : i < n) : 1 ≤ D (i * 2) ∧ D (i * 2) ≤ 8 ∧ 1 ≤ D (i * 2 + 1) ∧ D (i * 2 + 1) ≤ 1073741824 := of_decide_eq_true (h i hi).1
theorem valD_at {D : Nat → Int} : ∀ {n : Nat}, RightD n D → ∀ i, i < n → valD n D (D (i * 2)) = D (i * 2 + 1)
  | 0, _, i, hi => by omega
  | n + 1, h, i, hi => by
    simp only [valD]
    by_cases e : i = n
    · rw [e, if_pos rfl]
    · have := rightD_lt h i n (by omega) (by omega)
      rw [if_neg (by omega)]
      exact valD_at (h.cut (Nat.le_succ n)) i (by omega)
theorem valD_none {D : Nat → Int} {c : Int} : ∀ {n : Nat}, (∀ i, i < n → D (i * 2) ≠ c) → valD n D c = 0
  | 0, _ => rfl
  | n + 1, h => by
    simp only [valD]
    rw [if_neg (h n (by omega))]
    exact valD_none (fun i hi => h i (by omega))
theorem valD_cases {D : Nat → Int} {c : Int} : ∀ {n : Nat}, (valD n D c = 0 ∧ ∀ i, i < n → D (i * 2) ≠ c) ∨ ∃ i, i < n ∧ D (i * 2) = c ∧ valD n D c = D (i * 2 + 1)
  | 0 => .inl ⟨rfl, fun i hi => by omega⟩
  | n + 1 => by
    simp only [valD]
    by_cases e : D (n * 2) = c
    · rw [if_pos e]
      exact .inr ⟨n, by omega, e, rfl⟩
    · rw [if_neg e]
      rcases valD_cases (D := D) (c := c) (n := n) with ⟨h1, h2⟩ | ⟨i, hi, h1, h2⟩
      · refine .inl ⟨h1, fun i hi => ?_⟩
        by_cases e2 : i = n
        · rw [e2]; exact e
        · exact h2 i (by omega)
      · exact .inr ⟨i, by omega, h1, h2⟩
theorem valD_nn {n : Nat} {D : Nat → Int} (h : RightD n D) (c : Int) : 0 ≤ valD n D c := by
  rcases valD_cases (D := D) (c := c) (n := n) with ⟨h1, _⟩ | ⟨i, hi, _, h1⟩
  · omega
  · have := h.pos hi; omega
/-- a vector has a dot just if its number of the client is not below -/
theorem hasD_val {n : Nat} {D : Nat → Int} (h : RightD n D) {t s : Int} (hs : 1 ≤ s) : hasD n D t s = decide (s ≤ valD n D t) := by
  unfold hasD
  refine decide_eq_decide.2 ⟨fun ⟨i, hi, e, h1⟩ => ?_, fun h1 => ?_⟩
  · rw [← e, valD_at h i hi]; exact h1
  · rcases valD_cases (D := D) (c := t) (n := n) with ⟨h2, _⟩ | ⟨i, hi, e, h2⟩
    · omega
    · exact ⟨i, hi, e, by omega⟩
/-- vectors that say the same of each client are the same -/
theorem valD_ext {D E : Nat → Int} : ∀ {n m : Nat}, RightD n D → RightD m E → (∀ c, valD n D c = valD m E c) → n = m ∧ ∀ j, j < 2 * n → D j = E j
  | 0, 0, _, _, _ => ⟨rfl, fun j hj => by omega⟩
  | 0, m + 1, _, hE, h => by
    have h1 := h (E (m * 2))
    rw [valD_at hE m (by omega)] at h1
    have := hE.pos (show m < m + 1 by omega)
    have h2 : valD 0 D (E (m * 2)) = 0 := rfl
    omega
  | n + 1, 0, hD, _, h => by
    have h1 := h (D (n * 2))
    rw [valD_at hD n (by omega)] at h1
    have := hD.pos (show n < n + 1 by omega)
    have h2 : valD 0 E (D (n * 2)) = 0 := rfl
    omega
  | n + 1, m + 1, hD, hE, h => by
    have h1 := h (D (n * 2))
    rw [valD_at hD n (by omega)] at h1
    have h2 := h (E (m * 2))
    rw [valD_at hE m (by omega)] at h2
    have p1 := hD.pos (show n < n + 1 by omega)
    have p2 := hE.pos (show m < m + 1 by omega)
    have hle : D (n * 2) ≤ E (m * 2) := by
      rcases valD_cases (D := E) (c := D (n * 2)) (n := m + 1) with ⟨h3, _⟩ | ⟨i, hi, e, _⟩
      · omega
      · rw [← e]
        rcases Nat.lt_or_ge i m with h4 | h4
        · have := rightD_lt hE i m h4 (by omega); omega
        · have : i = m := by omega
          rw [this]; omega
    have hge : E (m * 2) ≤ D (n * 2) := by
      rcases valD_cases (D := D) (c := E (m * 2)) (n := n + 1) with ⟨h3, _⟩ | ⟨i, hi, e, _⟩
      · omega
      · rw [← e]
        rcases Nat.lt_or_ge i n with h4 | h4
        · have := rightD_lt hD i n h4 (by omega); omega
        · have : i = n := by omega
          rw [this]; omega
    have hc : D (n * 2) = E (m * 2) := by omega
    have hs : D (n * 2 + 1) = E (m * 2 + 1) := by
      rw [hc, valD_at hE m (by omega)] at h1
      exact h1
    have hrest : ∀ c, valD n D c = valD m E c := fun c => by
      have h3 := h c
      simp only [valD] at h3
      by_cases e : D (n * 2) = c
      · have a1 : valD n D c = 0 := valD_none (fun i hi => by have := rightD_lt hD i n hi (by omega); omega)
        have a2 : valD m E c = 0 := valD_none (fun i hi => by have := rightD_lt hE i m hi (by omega); omega)
        rw [a1, a2]
      · rw [if_neg e, if_neg (by omega)] at h3
        exact h3
    obtain ⟨e1, e2⟩ := valD_ext (hD.cut (Nat.le_succ n)) (hE.cut (Nat.le_succ m)) hrest
    subst e1
    refine ⟨rfl, fun j hj => ?_⟩
    have : j < 2 * n ∨ j = n * 2 ∨ j = n * 2 + 1 := by omega
    rcases this with h5 | rfl | rfl
    · exact e2 j h5
    · exact hc
    · exact hs
/-- all of a vector's dots are had just if it is nowhere above -/
theorem covers_val {n m : Nat} {D E : Nat → Int} (hD : RightD n D) (hE : RightD m E) : (∀ i, i < m → hasD n D (E (i * 2)) (E (i * 2 + 1)) = true) ↔ ∀ c, valD m E c ≤ valD n D c := by
  constructor
  · intro h c
    rcases valD_cases (D := E) (c := c) (n := m) with ⟨h1, _⟩ | ⟨i, hi, e, h1⟩
    · rw [h1]; exact valD_nn hD c
    · have h2 := h i hi
      rw [hasD_val hD (hE.pos hi).2.2.1] at h2
      have := of_decide_eq_true h2
      rw [h1, ← e]; exact this
  · intro h i hi
    rw [hasD_val hD (hE.pos hi).2.2.1]
    have := h (E (i * 2))
    rw [valD_at hE i hi] at this
    exact decide_eq_true this
end Go.Proofs.YtiimojhdpmkeoaaGreat
