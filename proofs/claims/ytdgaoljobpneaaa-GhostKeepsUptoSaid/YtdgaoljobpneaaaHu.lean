/- Plain: what a ghost has for good. -/
import Derived.Test.YtdgaoljobpneaaaHt
namespace Go.Proofs.Ytdgaoljobpneaaa
open Go.RowKit
section
variable {α : Type} {T : α → List Int}
theorem puts_pre : ∀ (l L : List α), ∃ N, putsT T L l = L ++ N
  | [], L => ⟨[], by simp [putsT]⟩
  | x :: l, L => by
    obtain ⟨N, hN⟩ := puts_pre l (putT T L x)
    have : putsT T L (x :: l) = putsT T (putT T L x) l := rfl
    rw [this, hN]
    unfold putT
    split
    · exact ⟨N, rfl⟩
    · exact ⟨x :: N, by simp⟩
theorem has_app (L N : List α) (t : List Int) : hasT T (L ++ N) t = (hasT T L t || hasT T N t) := by simp [hasT]
theorem puts_app (L l m : List α) : putsT T L (l ++ m) = putsT T (putsT T L l) m := by simp [putsT, List.foldl_append]
theorem put_has (L : List α) (x : α) (h : T x ≠ []) : hasT T (putT T L x) (T x) = true := by
  unfold putT
  split
  · rename_i h1
    exact h1.resolve_left h
  · rw [has_app]; simp [hasT]
theorem puts_has : ∀ (l L : List α) (x : α), x ∈ l → T x ≠ [] → hasT T (putsT T L l) (T x) = true
  | y :: l, L, x, hx, h => by
    have e : putsT T L (y :: l) = putsT T (putT T L y) l := rfl
    rw [e]
    rcases List.mem_cons.1 hx with rfl | hx
    · obtain ⟨N, hN⟩ := puts_pre (T := T) l (putT T L x)
      rw [hN, has_app, put_has L x h, Bool.true_or]
    · exact puts_has l _ x hx h
theorem puts_ne : ∀ (l L : List α), (∀ x, x ∈ L → T x ≠ []) → ∀ x, x ∈ putsT T L l → T x ≠ []
  | [], L, h, x, hx => h x hx
  | y :: l, L, h, x, hx => by
    refine puts_ne l (putT T L y) (fun z hz => ?_) x hx
    unfold putT at hz
    split at hz
    · exact h z hz
    · rename_i h1
      rcases List.mem_append.1 hz with hz | hz
      · exact h z hz
      · obtain rfl : z = y := by simpa using hz
        exact fun e => h1 (.inl e)
theorem puts_again : ∀ (l P : List α), (∀ x, x ∈ l → T x = [] ∨ hasT T P (T x) = true) → putsT T P l = P
  | [], P, _ => rfl
  | y :: l, P, h => by
    have e : putsT T P (y :: l) = putsT T (putT T P y) l := rfl
    have e2 : putT T P y = P := by unfold putT; rw [if_pos (h y (List.mem_cons_self ..))]
    rw [e, e2]
    exact puts_again l P fun x hx => h x (List.mem_cons_of_mem _ hx)
theorem puts_told (l : List α) : putsT T (putsT T [] l) l = putsT T [] l := puts_again l _ fun x hx => by
  by_cases h : T x = []
  · exact .inl h
  · exact .inr (puts_has l [] x hx h)
theorem puts_is (l : List α) (x : α) (hx : x ∈ l) : hasT T (putsT T [] l) (T x) = decide (T x ≠ []) := by
  by_cases h : T x = []
  · rw [h, hasT_nil (puts_ne l [] (fun x hx => by cases hx)), decide_eq_false (fun h => h rfl)]
  · rw [puts_has l [] x hx h, decide_eq_true h]
/-- no text twice -/
def Apart1 (T : α → List Int) (L : List α) : Prop := L.Pairwise fun a b => T a ≠ T b
theorem puts_apart : ∀ (l L : List α), Apart1 T L → Apart1 T (putsT T L l)
  | [], L, h => h
  | y :: l, L, h => by
    refine puts_apart l (putT T L y) ?_
    unfold putT
    split
    · exact h
    · rename_i h1
      refine List.pairwise_append.2 ⟨h, by simp, fun a ha b hb => ?_⟩
      obtain rfl : b = y := by simpa using hb
      intro e
      exact h1 (.inr (List.any_eq_true.2 ⟨a, ha, by simpa using e⟩))
theorem puts_sub : ∀ (l L : List α), ∃ N, putsT T L l = L ++ N ∧ N.Sublist l
  | [], L => ⟨[], by simp [putsT], List.Sublist.refl _⟩
  | x :: l, L => by
    obtain ⟨N, hN, hs⟩ := puts_sub l (putT T L x)
    have e : putsT T L (x :: l) = putsT T (putT T L x) l := rfl
    rw [e, hN]
    unfold putT
    split
    · exact ⟨N, rfl, hs.cons _⟩
    · exact ⟨x :: N, by simp, hs.cons_cons _⟩
theorem puts_sublist (l : List α) : (putsT T [] l).Sublist l := by
  obtain ⟨N, hN, hs⟩ := puts_sub (T := T) l []
  rw [hN]
  exact hs
theorem sub_skip {l m : List α} {i k : Nat} {a b : α} (h : (l.drop i).Sublist (m.drop k)) (ha : l[i]? = some a) (hb : m[k]? = some b) (hne : a ≠ b) : (l.drop i).Sublist (m.drop (k + 1)) := by
  have hi := (List.getElem?_eq_some_iff.1 ha).1
  have hk := (List.getElem?_eq_some_iff.1 hb).1
  have ea : l[i] = a := by rw [List.getElem?_eq_getElem hi] at ha; exact Option.some.inj ha
  have eb : m[k] = b := by rw [List.getElem?_eq_getElem hk] at hb; exact Option.some.inj hb
  rw [List.drop_eq_getElem_cons hi, List.drop_eq_getElem_cons hk, ea, eb] at h
  rw [List.drop_eq_getElem_cons hi, ea]
  clear ha hb ea eb hi hk
  generalize l.drop (i + 1) = l' at *
  generalize m.drop (k + 1) = m' at *
  cases h with
  | cons _ h => exact h
  | cons_cons _ h => exact absurd rfl hne
theorem sub_some {l m : List α} {i k : Nat} {a : α} (h : (l.drop i).Sublist (m.drop k)) (ha : l[i]? = some a) : k < m.length := by
  have hi := (List.getElem?_eq_some_iff.1 ha).1
  have := h.length_le
  rw [List.length_drop, List.length_drop] at this
  omega
theorem sub_next {l m : List α} {i k : Nat} (h : (l.drop i).Sublist (m.drop k)) : (l.drop (i + 1)).Sublist (m.drop k) := by
  rw [← List.drop_drop] 
  exact (List.drop_sublist 1 _).trans h
end
theorem greatB_no {L : List RecD} {M : List RootD} (h : greatB28 L M = false) : L.length ≤ 200 ∧ M.length ≤ 200 ∧ (∀ r, r ∈ L → recN r ≤ 2500) ∧ ∀ r, r ∈ M → rootN r ≤ 2500 := by
  unfold greatB28 at h
  simp only [Bool.or_eq_false_iff, decide_eq_false_iff_not, Nat.not_lt] at h
  obtain ⟨h1, h2, h3⟩ := h
  obtain ⟨h4, h5⟩ := sumN_le rootN 2500 M _ h1
  obtain ⟨_, h6⟩ := sumN_le recN 2500 L 0 (by omega)
  exact ⟨h2, h3, h6, h5⟩
theorem recN_ok {r : RecD} (h : recN r ≤ 2500) (h1 : BR r.vs) (h2 : BR r.ss) : r.ok := by
  unfold recN at h
  exact ⟨by omega, by omega, by omega, h1, h2⟩
theorem rootN_ok {r : RootD} (h : rootN r ≤ 2500) (h1 : BR r.sum) (h2 : BR r.sig) : r.ok := by
  unfold rootN at h
  exact ⟨by omega, by omega, h1, h2⟩
end Go.Proofs.Ytdgaoljobpneaaa
