/- The walks of the reference's Dot, up. -/
import Derived.Test.YtiimojhdpmkeoaaGreatWp
import Derived.Deep.QuietTactic
namespace Go.Proofs.YtiimojhdpmkeoaaGreat
open Go.RowKit
set_option maxHeartbeats 1000000 in
theorem rdot_c (c s : Int) (w : World) : Calls Tryz.prog 41 #[.agg #[.int .i64 c, .int .i64 s]] w fun e w' => e = .returned (.bool (okD c s)) ∧ Below w.heap.size w w' := by
  go_enter Tryz.func41, Tryz.ntmps41
  go_wp2
  all_goals
    go_returns
    refine ⟨?_, by go_grown⟩
    first
      | (rw [show okD c s = true from decide_eq_true (by omega)]; rfl)
      | (rw [show okD c s = false from decide_eq_false (by omega)]; rfl)
      | (rw [show okD c s = decide (s ≤ 1073741824) from decide_eq_decide.2 ⟨fun h => by omega, fun h => by omega⟩]; rfl)
/-- up to which number a row has a client's: the first -/
def upD (n : Nat) (D : Nat → Int) (c : Int) : Int := (((List.range n).filter fun i => D (i * 2) = c).head?.map fun i => D (i * 2 + 1)).getD 0
theorem upD_at {n : Nat} {D : Nat → Int} {c : Int} {k : Nat} (hk : k < n) (h : D (k * 2) = c) (hno : ∀ i, i < k → D (i * 2) ≠ c) : upD n D c = D (k * 2 + 1) := by
  unfold upD
  have : ((List.range n).filter fun i => D (i * 2) = c).head? = some k := by
    rw [List.head?_filter]
    rw [List.find?_eq_some_iff_getElem]
    refine ⟨by simpa using h, k, by simpa using hk, by simp, fun j hj => by simpa using hno j hj⟩
  rw [this]
  rfl
theorem upD_none {n : Nat} {D : Nat → Int} {c : Int} (hno : ∀ i, i < n → D (i * 2) ≠ c) : upD n D c = 0 := by
  unfold upD
  have : ((List.range n).filter fun i => D (i * 2) = c) = [] := List.filter_eq_nil_iff.2 (fun i hi => by simpa using hno i (by simpa using hi))
  rw [this]
  rfl
theorem upD_val {n : Nat} {D : Nat → Int} (h : RightD n D) (c : Int) : upD n D c = valD n D c := by
  rcases valD_cases (D := D) (c := c) (n := n) with ⟨h1, h2⟩ | ⟨i, hi, h1, h2⟩
  · rw [h1, upD_none h2]
  · rw [h2, upD_at hi h1 (fun j hj => by have := rightD_lt h j i hj hi; omega)]
set_option maxRecDepth 20000 in
set_option maxHeartbeats 2000000 in
theorem up_c (p : Option Addr) (n c : Nat) (D : Nat → Int) (t : Int) (hn : n ≤ 1000000) (w : World) (hD : DotsAt w p n D) : Calls Tryz.prog 45 #[.slice p n c, .int .i64 t] w fun e w' => e = .returned (.int .i64 (upD n D t)) ∧ Below w.heap.size w w' := by
  go_enter Tryz.func45, Tryz.ntmps45
  go_wp2
  go_loopw [5] (fun i wr => ∃ k : Nat, k ≤ n ∧ i = .int .i64 k ∧ Below w.heap.size w wr ∧ ∀ i, i < k → D (i * 2) ≠ t) (fun i _ => (n - intOf i).toNat)
  case atStart => exact ⟨0, by omega, rfl, Below.refl _ _, fun i hi => absurd hi (by omega)⟩
  case round =>
    obtain ⟨k, hk, hi, hb, hK⟩ := hrel
    subst hi
    by_cases he : k = n
    · subst he
      have hu := Lib.hid (upD_none hK)
      clear hK hk
      go_wp2
      go_returns
      exact ⟨by rw [hu.out]; rfl, hb⟩
    · have hk0 : (0 : Int) ≤ (k : Int) := by omega
      have hk1 : (k : Int) < (n : Int) := by omega
      have hk2 : k < n := by omega
      obtain ⟨g, o, rfl, hg, hc⟩ := (hD.below hb) (by omega)
      have c0 : wr.cell? ⟨g, o + k * 2, none⟩ = some (.int .i64 (D (k * 2))) := hc (k * 2) (by omega)
      have c1 : wr.cell? ⟨g, o + k * 2 + 1, none⟩ = some (.int .i64 (D (k * 2 + 1))) := by rw [Nat.add_assoc]; exact hc (k * 2 + 1) (by omega)
      by_cases hq : D (k * 2) = t
      · have hu := Lib.hid (upD_at hk2 hq hK)
        clear hK hc hD
        generalize D (k * 2) = x at *
        generalize D (k * 2 + 1) = y at *
        subst hq
        go_wp2
        go_returns
        exact ⟨by rw [hu.out]; rfl, hb⟩
      · have hn2 : ∀ i, i < k + 1 → D (i * 2) ≠ t := fun i hi => by
          by_cases e : i = k
          · rw [e]; exact hq
          · exact hK i (by omega)
        replace hn2 := Lib.hid hn2
        clear hK hc hD
        generalize D (k * 2) = x at *
        generalize D (k * 2 + 1) = y at *
        go_wp2
        exact ⟨⟨k + 1, by omega, rfl, hb, hn2.out⟩, by simp [intOf]; omega⟩
end Go.Proofs.YtiimojhdpmkeoaaGreat
