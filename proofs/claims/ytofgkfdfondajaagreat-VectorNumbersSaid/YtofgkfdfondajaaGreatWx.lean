/- The walks of the law's small and awake. -/
import Derived.Test.YtofgkfdfondajaaGreatWv
namespace Go.Proofs.YtofgkfdfondajaaGreat
open Go.RowKit
/-- what small answers tells -/
def PostSm (n : Nat) (N : Nat → Nat) (w : World) (e : Ending) (w' : World) : Prop := (∃ b : Bool, e = .returned (.bool b) ∧ (b = true → n ≤ 20 ∧ ∀ i, i < n → N i ≤ 150)) ∧ Below w.heap.size w w'
set_option maxRecDepth 20000 in
set_option maxHeartbeats 4000000 in
theorem small_c (p : Option Addr) (n c : Nat) (P : Nat → Option Addr) (N C : Nat → Nat) (w : World) (hR : RowAt w p n (fun i => .slice (P i) (N i) (C i))) :
    Calls Tryz.prog 6 #[.slice p n c] w (PostSm n N w) := by
  go_enter Tryz.func6, Tryz.ntmps6
  go_wp2
  go_loopw [3, 4] (fun s i wr => ∃ k t : Nat, k ≤ n ∧ k ≤ 21 ∧ s = .int .i64 t ∧ i = .int .i64 k ∧ t ≤ 200 * k ∧ (∀ i, i < k → min (N i) 200 ≤ t) ∧ Below w.heap.size w wr) (fun _ i _ => (21 - intOf i).toNat)
  case atStart => exact ⟨0, 0, by omega, by omega, rfl, rfl, by omega, fun i hi => absurd hi (by omega), Below.refl _ _⟩
  case round =>
    obtain ⟨k, t, hk, hk21, hs, hi, ht, hK, hb⟩ := hrel
    subst hi hs
    have hk0 : (0 : Int) ≤ (k : Int) := by omega
    by_cases he : k = n
    · subst he
      have h1 : (k : Int) ≤ 21 := by omega
      by_cases hA : k ≤ 20
      · have hA2 : (k : Int) ≤ 20 := by omega
        by_cases hB : t ≤ 150
        · have hB2 : (t : Int) ≤ 150 := by omega
          have hfin : k ≤ 20 ∧ ∀ i, i < k → N i ≤ 150 := ⟨hA, fun i hi => by have := hK i hi; omega⟩
          replace hfin := Lib.hid hfin
          clear hK hA hB hk
          go_wp2
          go_returns
          exact ⟨⟨_, rfl, fun _ => hfin.out⟩, hb⟩
        · have hB2 : ¬ (t : Int) ≤ 150 := by omega
          clear hK hA hB hk
          go_wp2
          go_returns
          exact ⟨⟨false, rfl, fun h => by cases h⟩, hb⟩
      · have hA2 : ¬ (k : Int) ≤ 20 := by omega
        clear hK hA hk
        go_wp2
        go_returns
        exact ⟨⟨false, rfl, fun h => by cases h⟩, hb⟩
    · have hk1 : (k : Int) < (n : Int) := by omega
      by_cases hq : k = 21
      · have hq2 : (k : Int) = 21 := by omega
        have hq3 : ¬ (n : Int) ≤ 20 := by omega
        have hq4 : ¬ (k : Int) < 21 := by omega
        clear hK hk he
        go_wp2
        go_returns
        exact ⟨⟨false, rfl, fun h => by cases h⟩, hb⟩
      · have hq4 : (k : Int) < 21 := by omega
        obtain ⟨g, o, rfl, hg, hc⟩ := (RowAt.below hR hb) (by omega)
        have c0 : wr.cell? ⟨g, o + k, none⟩ = some (.slice (P k) (N k) (C k)) := hc k (by omega)
        have hw : IntKind.i64.wrap ((t : Int) + min (N k : Int) 200) = ((t + min (N k) 200 : Nat) : Int) := by rw [IntWalk.i64_in _ (by omega)]; omega
        have hK2 : ∀ i, i < k + 1 → min (N i) 200 ≤ t + min (N k) 200 := fun i hi => by
          by_cases e : i = k
          · rw [e]; omega
          · have := hK i (by omega); omega
        have ht2 : t + min (N k) 200 ≤ 200 * (k + 1) := by omega
        replace hK2 := Lib.hid hK2
        replace ht2 := Lib.hid ht2
        clear hc hK
        go_wp2
        exact ⟨⟨k + 1, t + min (N k) 200, by omega, by omega, rfl, rfl, ht2.out, hK2.out, hb⟩, by simp [intOf]; omega⟩
/-- vectors joined say the greatest -/
theorem ups_right {l : List Int} {V : Int → Int} (hV : ∀ q, 0 ≤ V q) : ∀ {m : Nat}, RightD m (lD l) → ∀ q, upsV l m V q = max (V q) (valD m (lD l) q)
  | 0, _, q => by have := hV q; simp only [upsV, valD]; omega
  | i + 1, h, q => by
    have ih := ups_right hV (h.cut (Nat.le_succ i)) q
    simp only [upsV, valD, upV]
    by_cases e : q = lD l (i * 2)
    · rw [if_pos e, if_pos e.symm, ih]
      have : valD i (lD l) q = 0 := valD_none (fun j hj => by have := rightD_lt h j i hj (by omega); omega)
      have := hV q
      omega
    · rw [if_neg e, if_neg (fun h => e h.symm), ih]
theorem ups_nn {l : List Int} {V : Int → Int} (hV : ∀ q, 0 ≤ V q) {m : Nat} (h : RightD m (lD l)) (q : Int) : 0 ≤ upsV l m V q := by
  rw [ups_right hV h]; have := hV q; omega
theorem eqL_val {xs ys : List Int} {n m : Nat} (hx : xs.length = 2 * n) (hy : ys.length = 2 * m) (h1 : RightD n (lD xs)) (h2 : RightD m (lD ys)) (h : ∀ q, valD n (lD xs) q = valD m (lD ys) q) : xs = ys ∧ n = m := by
  obtain ⟨e, h3⟩ := valD_ext h1 h2 h
  subst e
  exact ⟨ext_getD (by omega) (fun j hj => h3 j (by omega)), rfl⟩
theorem rows_at {w : World} {g : Nat} {t : TypeId} {cs : Array Value} (h : Blk w g t cs) (n : Nat) (f : Nat → Value) (hf : ∀ i, i < n → cs[i]? = some (f i)) : RowAt w (some ⟨g, 0, none⟩) n f := fun _ => ⟨g, 0, rfl, h.lt, fun j hj => by rw [Nat.zero_add, h.cell j]; exact hf j hj⟩
def sel2 {α : Type} (a b : α) : Nat → α | 0 => a | _ => b
def sel3 {α : Type} (a b c : α) : Nat → α | 0 => a | 1 => b | _ => c
theorem PostV.congr {V V' : Int → Int} {w w' : World} {e : Ending} (h : PostV V w e w') (hv : ∀ q, V q = V' q) : PostV V' w e w' := by
  obtain ⟨q, m, cc, es, h1, h2, h3, h4, h5⟩ := h
  exact ⟨q, m, cc, es, h1, h2, h3, fun r => by rw [h4, hv], h5⟩
theorem join1_no (g c : Nat) (p0 : Option Addr) (n0 c0 : Nat) (l0 : List Int) (h0n : n0 ≤ 1000) (w : World) (hB : Blk w g 23 #[.slice p0 n0 c0]) (h0 : DotsL w p0 n0 l0) (hR0 : rightD n0 (lD l0) = false) :
    Calls Tryz.prog 8 #[.slice (some ⟨g, 0, none⟩) 1 c] w (PostV (fun _ => 0) w) := by
  refine (join_c (some ⟨g, 0, none⟩) 1 c (fun _ => p0) (fun _ => n0) (fun _ => c0) (fun _ => l0) (by omega) (fun _ _ => h0n) w (rows_at hB 1 _ (fun i hi => ?_)) (fun _ _ => h0)).mono (fun e w' h => h.congr (fun q => ?_))
  · obtain rfl : i = 0 := by omega
    rfl
  unfold joinA
  rw [if_neg (fun h => by have := h 0 (by omega); rw [hR0] at this; cases this)]
theorem join2_c (g c : Nat) (p0 : Option Addr) (n0 c0 : Nat) (l0 : List Int) (p1 : Option Addr) (n1 c1 : Nat) (l1 : List Int) (h0n : n0 ≤ 1000) (h1n : n1 ≤ 1000) (w : World) (hB : Blk w g 23 #[.slice p0 n0 c0, .slice p1 n1 c1])
    (h0 : DotsL w p0 n0 l0) (h1 : DotsL w p1 n1 l1) (hR0 : RightD n0 (lD l0)) (hR1 : RightD n1 (lD l1)) :
    Calls Tryz.prog 8 #[.slice (some ⟨g, 0, none⟩) 2 c] w (PostV (fun q => max (valD n0 (lD l0) q) (valD n1 (lD l1) q)) w) := by
  have hi2 : ∀ i, i < 2 → i = 0 ∨ i = 1 := fun i hi => by omega
  refine (join_c (some ⟨g, 0, none⟩) 2 c (sel2 p0 p1) (sel2 n0 n1) (sel2 c0 c1) (sel2 l0 l1) (by omega) (fun i hi => ?_) w (rows_at hB 2 _ (fun i hi => ?_)) (fun i hi => ?_)).mono (fun e w' h => h.congr (fun q => ?_))
  · rcases hi2 i hi with rfl | rfl <;> assumption
  · rcases hi2 i hi with rfl | rfl <;> rfl
  · rcases hi2 i hi with rfl | rfl <;> assumption
  · unfold joinA
    rw [if_pos (fun i hi => by rcases hi2 i hi with rfl | rfl <;> exact decide_eq_true (by assumption))]
    show upsV l1 n1 (upsV l0 n0 (fun _ => 0)) q = _
    rw [ups_right (ups_nn (fun _ => Int.le_refl _) hR0) hR1, ups_right (fun _ => Int.le_refl _) hR0]
    have := valD_nn hR0 q
    omega
theorem join3_c (g c : Nat) (p0 : Option Addr) (n0 c0 : Nat) (l0 : List Int) (p1 : Option Addr) (n1 c1 : Nat) (l1 : List Int) (p2 : Option Addr) (n2 c2 : Nat) (l2 : List Int) (h0n : n0 ≤ 1000) (h1n : n1 ≤ 1000) (h2n : n2 ≤ 1000) (w : World)
    (hB : Blk w g 23 #[.slice p0 n0 c0, .slice p1 n1 c1, .slice p2 n2 c2])
    (h0 : DotsL w p0 n0 l0) (h1 : DotsL w p1 n1 l1) (h2 : DotsL w p2 n2 l2) (hR0 : RightD n0 (lD l0)) (hR1 : RightD n1 (lD l1)) (hR2 : RightD n2 (lD l2)) :
    Calls Tryz.prog 8 #[.slice (some ⟨g, 0, none⟩) 3 c] w (PostV (fun q => max (max (valD n0 (lD l0) q) (valD n1 (lD l1) q)) (valD n2 (lD l2) q)) w) := by
  have hi2 : ∀ i, i < 3 → i = 0 ∨ i = 1 ∨ i = 2 := fun i hi => by omega
  refine (join_c (some ⟨g, 0, none⟩) 3 c (sel3 p0 p1 p2) (sel3 n0 n1 n2) (sel3 c0 c1 c2) (sel3 l0 l1 l2) (by omega) (fun i hi => ?_) w (rows_at hB 3 _ (fun i hi => ?_)) (fun i hi => ?_)).mono (fun e w' h => h.congr (fun q => ?_))
  · rcases hi2 i hi with rfl | rfl | rfl <;> assumption
  · rcases hi2 i hi with rfl | rfl | rfl <;> rfl
  · rcases hi2 i hi with rfl | rfl | rfl <;> assumption
  · unfold joinA
    rw [if_pos (fun i hi => by rcases hi2 i hi with rfl | rfl | rfl <;> exact decide_eq_true (by assumption))]
    show upsV l2 n2 (upsV l1 n1 (upsV l0 n0 (fun _ => 0))) q = _
    have a0 := ups_nn (V := fun _ => 0) (fun _ => Int.le_refl _) hR0
    rw [ups_right (ups_nn a0 hR1) hR2, ups_right a0 hR1, ups_right (fun _ => Int.le_refl _) hR0]
    have := valD_nn hR0 q
    omega
end Go.Proofs.YtofgkfdfondajaaGreat
