/- A dot put into a vector: plain. -/
import Derived.Test.YtofgkfdfondajaaGreatWp
namespace Go.Proofs.YtofgkfdfondajaaGreat
def lD (ds : List Int) (j : Nat) : Int := ds.getD j 0
def insL (ds : List Int) (k : Nat) (c s : Int) : List Int := ds.take (k * 2) ++ [c, s] ++ ds.drop (k * 2)
theorem ins_len {ds : List Int} {n k : Nat} (c s : Int) (hl : ds.length = 2 * n) (hk : k ≤ n) : (insL ds k c s).length = 2 * (n + 1) := by
  unfold insL
  simp only [List.length_append, List.length_take, List.length_drop, List.length_cons, List.length_nil]
  omega
theorem ins_lo {ds : List Int} {n k : Nat} (c s : Int) (hl : ds.length = 2 * n) (hk : k ≤ n) {j : Nat} (hj : j < k * 2) : lD (insL ds k c s) j = lD ds j := by
  unfold lD insL
  have ht : j < (ds.take (k * 2)).length := by rw [List.length_take]; omega
  rw [List.append_assoc, List.getD_eq_getElem?_getD, List.getElem?_append_left ht, List.getD_eq_getElem?_getD]
  simp [hj]
theorem ins_c {ds : List Int} {n k : Nat} (c s : Int) (hl : ds.length = 2 * n) (hk : k ≤ n) : lD (insL ds k c s) (k * 2) = c ∧ lD (insL ds k c s) (k * 2 + 1) = s := by
  have ht : (ds.take (k * 2)).length = k * 2 := by rw [List.length_take]; omega
  unfold lD insL
  constructor
  · rw [List.append_assoc, List.getD_eq_getElem?_getD, List.getElem?_append_right (by omega), ht]
    simp
  · rw [List.append_assoc, List.getD_eq_getElem?_getD, List.getElem?_append_right (by omega), ht, show k * 2 + 1 - k * 2 = 1 by omega]
    simp
theorem ins_hi {ds : List Int} {n k : Nat} (c s : Int) (hl : ds.length = 2 * n) (hk : k ≤ n) {j : Nat} (hj : k * 2 ≤ j) : lD (insL ds k c s) (j + 2) = lD ds j := by
  have ht : (ds.take (k * 2)).length = k * 2 := by rw [List.length_take]; omega
  unfold lD insL
  rw [List.getD_eq_getElem?_getD, List.getElem?_append_right (by rw [List.length_append, ht]; simp; omega), List.length_append, ht, List.getElem?_drop]
  simp only [List.length_cons, List.length_nil]
  rw [show k * 2 + (j + 2 - (k * 2 + (0 + 1 + 1))) = j by omega, List.getD_eq_getElem?_getD]
theorem right_ins {ds : List Int} {n k : Nat} {c s : Int} (hl : ds.length = 2 * n) (hk : k ≤ n) (hR : RightD n (lD ds)) (hc : okD c s = true) (hlo : ∀ i, i < k → lD ds (i * 2) < c) (hhi : ∀ i, k ≤ i → i < n → c < lD ds (i * 2)) : RightD (n + 1) (lD (insL ds k c s)) := fun i hi => by
  rcases Nat.lt_trichotomy i k with h | h | h
  · have e0 := ins_lo c s hl hk (show i * 2 < k * 2 by omega)
    have e1 := ins_lo c s hl hk (show i * 2 + 1 < k * 2 by omega)
    rw [e0, e1]
    refine ⟨(hR i (by omega)).1, fun h0 => ?_⟩
    rw [ins_lo c s hl hk (show (i - 1) * 2 < k * 2 by omega)]
    exact (hR i (by omega)).2 h0
  · subst h
    obtain ⟨e0, e1⟩ := ins_c c s hl hk
    rw [e0, e1]
    refine ⟨hc, fun h0 => ?_⟩
    rw [ins_lo c s hl hk (show (i - 1) * 2 < i * 2 by omega)]
    exact hlo _ (by omega)
  · have e0 := ins_hi c s hl hk (show k * 2 ≤ (i - 1) * 2 by omega)
    have e1 := ins_hi c s hl hk (show k * 2 ≤ (i - 1) * 2 + 1 by omega)
    rw [show (i - 1) * 2 + 2 = i * 2 by omega] at e0
    rw [show (i - 1) * 2 + 1 + 2 = i * 2 + 1 by omega] at e1
    rw [e0, e1]
    refine ⟨(hR (i - 1) (by omega)).1, fun _ => ?_⟩
    by_cases h1 : i - 1 = k
    · rw [h1, (ins_c c s hl hk).1]
      exact hhi k (Nat.le_refl _) (by omega)
    · have e2 := ins_hi c s hl hk (show k * 2 ≤ (i - 2) * 2 by omega)
      rw [show (i - 2) * 2 + 2 = (i - 1) * 2 by omega] at e2
      rw [e2]
      have := (hR (i - 1) (by omega)).2 (by omega)
      rwa [show i - 1 - 1 = i - 2 by omega] at this
/-- what a vector says behind an insert -/
theorem val_ins {ds : List Int} {n k : Nat} {c s : Int} (hl : ds.length = 2 * n) (hk : k ≤ n) (hR : RightD n (lD ds)) (hc : okD c s = true) (hlo : ∀ i, i < k → lD ds (i * 2) < c) (hhi : ∀ i, k ≤ i → i < n → c < lD ds (i * 2)) (q : Int) :
    valD (n + 1) (lD (insL ds k c s)) q = if q = c then s else valD n (lD ds) q := by
  have hR2 := right_ins hl hk hR hc hlo hhi
  obtain ⟨e0, e1⟩ := ins_c c s hl hk
  by_cases hq : q = c
  · rw [if_pos hq, hq]
    have := valD_at hR2 k (by omega)
    rwa [e0, e1] at this
  · rw [if_neg hq]
    rcases valD_cases (D := lD ds) (c := q) (n := n) with ⟨h1, h2⟩ | ⟨i, hi, h1, h2⟩
    · rw [h1]
      refine valD_none (fun i hi => ?_)
      rcases Nat.lt_trichotomy i k with h | h | h
      · rw [ins_lo c s hl hk (show i * 2 < k * 2 by omega)]
        exact h2 i (by omega)
      · subst h
        rw [e0]
        exact fun h => hq h.symm
      · have e2 := ins_hi c s hl hk (show k * 2 ≤ (i - 1) * 2 by omega)
        rw [show (i - 1) * 2 + 2 = i * 2 by omega] at e2
        rw [e2]
        exact h2 _ (by omega)
    · rw [h2]
      rcases Nat.lt_or_ge i k with h | h
      · have a0 := ins_lo c s hl hk (show i * 2 < k * 2 by omega)
        have a1 := ins_lo c s hl hk (show i * 2 + 1 < k * 2 by omega)
        have := valD_at hR2 i (by omega)
        rwa [a0, a1, h1] at this
      · have a0 := ins_hi c s hl hk (show k * 2 ≤ i * 2 by omega)
        have a1 := ins_hi c s hl hk (show k * 2 ≤ i * 2 + 1 by omega)
        have := valD_at hR2 (i + 1) (by omega)
        rw [show (i + 1) * 2 = i * 2 + 2 by omega, show i * 2 + 2 + 1 = i * 2 + 1 + 2 by omega, a0, a1, h1] at this
        exact this
/-- the number of the dot found is raised -/
def setL (ds : List Int) (k : Nat) (s : Int) : List Int := ds.set (k * 2 + 1) s
theorem set_get {ds : List Int} {n k : Nat} (s : Int) (hl : ds.length = 2 * n) (hk : k < n) (j : Nat) : lD (setL ds k s) j = if j = k * 2 + 1 then s else lD ds j := by
  unfold lD setL
  by_cases h : j = k * 2 + 1
  · subst h
    rw [if_pos rfl]
    have : k * 2 + 1 < ds.length := by omega
    simp [List.getD_eq_getElem?_getD, this]
  · rw [if_neg h]
    simp [List.getD_eq_getElem?_getD, Ne.symm h]
theorem right_set {ds : List Int} {n k : Nat} {s : Int} (hl : ds.length = 2 * n) (hk : k < n) (hR : RightD n (lD ds)) (hc : okD (lD ds (k * 2)) s = true) : RightD n (lD (setL ds k s)) := fun i hi => by
  have e0 : lD (setL ds k s) (i * 2) = lD ds (i * 2) := by rw [set_get s hl hk, if_neg (by omega)]
  have e2 : lD (setL ds k s) ((i - 1) * 2) = lD ds ((i - 1) * 2) := by rw [set_get s hl hk, if_neg (by omega)]
  rw [e0, e2]
  refine ⟨?_, (hR i hi).2⟩
  rw [set_get s hl hk]
  by_cases h : i = k
  · subst h; rw [if_pos rfl]; exact hc
  · rw [if_neg (by omega)]; exact (hR i hi).1
theorem val_set {ds : List Int} {n k : Nat} {s : Int} (hl : ds.length = 2 * n) (hk : k < n) (hR : RightD n (lD ds)) (hc : okD (lD ds (k * 2)) s = true) (q : Int) : valD n (lD (setL ds k s)) q = if q = lD ds (k * 2) then s else valD n (lD ds) q := by
  have hR2 := right_set hl hk hR hc
  have e0 : ∀ i, lD (setL ds k s) (i * 2) = lD ds (i * 2) := fun i => by rw [set_get s hl hk, if_neg (by omega)]
  by_cases hq : q = lD ds (k * 2)
  · rw [if_pos hq, hq]
    have := valD_at hR2 k hk
    rwa [e0, set_get s hl hk, if_pos rfl] at this
  · rw [if_neg hq]
    rcases valD_cases (D := lD ds) (c := q) (n := n) with ⟨h1, h2⟩ | ⟨i, hi, h1, h2⟩
    · rw [h1]
      exact valD_none (fun i hi => by rw [e0]; exact h2 i hi)
    · rw [h2]
      have := valD_at hR2 i hi
      rw [e0, h1, set_get s hl hk, if_neg (fun h => hq (by rw [← h1, show i = k by omega]))] at this
      exact this
end Go.Proofs.YtofgkfdfondajaaGreat
