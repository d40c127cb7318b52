/- The walks of the binary search, of at, has and Has. -/
import Derived.Test.YtdgaoljobpneaaaVa
namespace Go.Proofs.Ytdgaoljobpneaaa
open Go.RowKit
theorem calls_at {P : Program} {f : FuncId} {args : Array Value} {W : World} {R : Ending → World → Prop} (h : ∀ W0, W0 = W → Calls P f args W0 R) : Calls P f args W R := h W rfl
set_option maxHeartbeats 1000000 in
theorem at1_c (x y t : Int) (w : World) : Calls Try.prog 112 #[.agg #[.int .i64 x, .int .i64 y], .int .i64 t] w fun e w' => e = .returned (.int .i64 (cmpI x t)) ∧ Below w.heap.size w w' := by
  go_enter Try.func112, Try.ntmps112
  go_wp2_with fail
  refine (compare_c x t _).mono ?_
  rintro e w1 ⟨rfl, rfl⟩
  go_wp2
  go_returns
  exact ⟨rfl, by go_grown⟩
def foundB (n : Nat) (D : Nat → Int) (t : Int) (k : Nat) : Bool := decide (k < n ∧ D (k * 2) = t)
set_option maxRecDepth 20000 in
set_option maxHeartbeats 2000000 in
theorem search_c (p : Option Addr) (n c : Nat) (D : Nat → Int) (t : Int) (hn : n ≤ 1000000) (w : World) (hD : DotsAt w p n D) (hs : ∀ i j, i < j → j < n → D (i * 2) < D (j * 2)) :
    Calls Try.prog 111 #[.slice p n c, .int .i64 t, .func (.func 112) #[] #[]] w fun e w' => ∃ k : Nat, k ≤ n ∧ (∀ i, i < k → D (i * 2) < t) ∧ (∀ i, k ≤ i → i < n → t ≤ D (i * 2)) ∧ e = .returned (.tuple #[.int .i64 k, .bool (foundB n D t k)]) ∧ Below w.heap.size w w' := by
  go_enter Try.func111, Try.ntmps111
  go_wp2
  go_loopw [9, 10] (fun i j wr => ∃ lo hi : Nat, lo ≤ hi ∧ hi ≤ n ∧ i = .int .i64 lo ∧ j = .int .i64 hi ∧ (∀ i, i < lo → D (i * 2) < t) ∧ (∀ i, hi ≤ i → i < n → t ≤ D (i * 2)) ∧ Below w.heap.size w wr) (fun i j _ => (intOf j - intOf i).toNat)
  case atStart => exact ⟨0, n, by omega, by omega, rfl, rfl, fun i hi => by omega, fun i h1 h2 => by omega, Below.refl _ _⟩
  case round =>
    obtain ⟨lo, hi, hlh, hhn, hi', hj', hL, hH, hb⟩ := hrel
    subst hi' hj'
    by_cases he : lo = hi
    · subst he
      have hlt : ¬ (lo : Int) < (lo : Int) := by omega
      have hpost : ∀ b : Bool, b = foundB n D t lo → ∃ k : Nat, k ≤ n ∧ (∀ i, i < k → D (i * 2) < t) ∧ (∀ i, k ≤ i → i < n → t ≤ D (i * 2)) ∧ (Ending.returned (.tuple #[.int .i64 lo, .bool b]) = .returned (.tuple #[.int .i64 k, .bool (foundB n D t k)])) :=
        fun b hb => ⟨lo, hhn, hL, hH, by rw [hb]⟩
      replace hpost := Lib.hid hpost
      clear hL hs hlh
      by_cases hln : lo = n
      · subst hln
        clear hH hhn
        go_wp2
        go_returns
        obtain ⟨k, h1, h2, h3, h4⟩ := hpost.out false (by simp [foundB])
        exact ⟨k, h1, h2, h3, h4, hb⟩
      · have hln2 : lo < n := by omega
        have hln3 : (lo : Int) < (n : Int) := by omega
        have hl0 : (0 : Int) ≤ (lo : Int) := by omega
        have hge := hH lo (Nat.le_refl _) hln2
        obtain ⟨g, o, rfl, hg, hc⟩ := (hD.below hb) (by omega)
        have c0 := hc (lo * 2) (by omega)
        have c1 := hc (lo * 2 + 1) (by omega)
        rw [← Nat.add_assoc] at c1
        clear hc hD hH
        have hat := at1_c (D (lo * 2)) (D (lo * 2 + 1)) t
        replace hat := Lib.hid hat
        go_wp2_with fail
        refine (hat.out _).mono ?_
        rintro q w1 ⟨rfl, hb1⟩
        by_cases hq : D (lo * 2) = t
        · have hv : cmpI (D (lo * 2)) t = 0 := by unfold cmpI; rw [if_neg (by omega), if_neg (by omega)]
          rw [hv]
          obtain ⟨k, h1, h2, h3, h4⟩ := hpost.out true (by simp [foundB, hln2, hq])
          clear hv hq hat hpost c0 c1 hge
          go_wp2
          go_returns
          exact ⟨k, h1, h2, h3, h4, hb.trans (hb1.mono hb.size)⟩
        · have hv : cmpI (D (lo * 2)) t = 1 := by unfold cmpI; rw [if_neg (by omega), if_pos (by omega)]
          rw [hv]
          obtain ⟨k, h1, h2, h3, h4⟩ := hpost.out false (by simp [foundB, hq])
          clear hv hq hat hpost c0 c1 hge
          go_wp2
          go_returns
          exact ⟨k, h1, h2, h3, h4, hb.trans (hb1.mono hb.size)⟩
    · have hlt : (lo : Int) < (hi : Int) := by omega
      obtain ⟨h, hh⟩ : ∃ h, h = (lo + hi) / 2 := ⟨_, rfl⟩
      have hh1 : lo ≤ h := by omega
      have hh2 : h < hi := by omega
      have hh3 : h < n := by omega
      have hh4 : (0 : Int) ≤ (h : Int) := by omega
      have hh5 : (h : Int) < (n : Int) := by omega
      have hw1 : IntKind.i64.wrap ((lo : Int) + (hi : Int)) = (lo : Int) + (hi : Int) := IntWalk.i64_in _ (by omega)
      replace hL := Lib.hid hL
      replace hH := Lib.hid hH
      replace hh := Lib.hid hh
      obtain ⟨g, o, rfl, hg, hc⟩ := (hD.below hb) (by omega)
      have c0 := hc (h * 2) (by omega)
      have c1 := hc (h * 2 + 1) (by omega)
      rw [← Nat.add_assoc] at c1
      replace hc := Lib.hid hc
      clear hD
      have hw2 : IntKind.u64.wrap ((lo : Int) + (hi : Int)) = (lo : Int) + (hi : Int) := by rw [IntKind.wrap_u64, Int.emod_eq_of_lt (by omega) (by omega)]
      have hw3 : ((lo : Int) + (hi : Int)) / 2 = (h : Int) := by rw [hh.out]; omega
      have hw4 : IntKind.i64.wrap (h : Int) = (h : Int) := IntWalk.i64_in _ (by omega)
      have hat := at1_c (D (h * 2)) (D (h * 2 + 1)) t
      replace hat := Lib.hid hat
      go_wp2_with fail
      refine (hat.out _).mono ?_
      rintro q w1 ⟨rfl, hb1⟩
      have hb2 := hb.trans (hb1.mono hb.size)
      clear c0 c1 hat
      by_cases hq : D (h * 2) < t
      · have hv : cmpI (D (h * 2)) t = -1 := by unfold cmpI; rw [if_pos hq]
        rw [hv]
        have hL2 : ∀ i, i < h + 1 → D (i * 2) < t := fun i hi2 => by
          rcases Nat.lt_or_ge i h with h1 | h1
          · exact Int.lt_trans (hs i h h1 hh3) hq
          · obtain rfl : i = h := by omega
            exact hq
        replace hL2 := Lib.hid hL2
        have hw5 : IntKind.i64.wrap ((h : Int) + 1) = (h : Int) + 1 := IntWalk.i64_in _ (by omega)
        clear hv hq hs
        go_wp2
        exact ⟨⟨h + 1, hi, by omega, by omega, rfl, rfl, hL2.out, hH.out, hb2⟩, by simp [intOf]; omega⟩
      · have hv : ∃ v : Int, cmpI (D (h * 2)) t = v ∧ ¬ v < 0 := ⟨_, rfl, by unfold cmpI; rw [if_neg hq]; split <;> decide⟩
        obtain ⟨v, hv, hv0⟩ := hv
        rw [hv]
        have hH2 : ∀ i, h ≤ i → i < n → t ≤ D (i * 2) := fun i h1 h2 => by
          rcases Nat.lt_or_ge h i with h3 | h3
          · have := hs h i h3 h2
            omega
          · obtain rfl : i = h := by omega
            omega
        replace hH2 := Lib.hid hH2
        clear hv hq hs
        go_wp2
        exact ⟨⟨lo, h, by omega, by omega, rfl, rfl, hL.out, hH2.out, hb2⟩, by simp [intOf]; omega⟩
set_option maxHeartbeats 2000000 in
theorem at_c (p : Option Addr) (n c : Nat) (D : Nat → Int) (t : Int) (hn : n ≤ 1000000) (w : World) (hD : DotsAt w p n D) (hs : ∀ i j, i < j → j < n → D (i * 2) < D (j * 2)) :
    Calls Try.prog 108 #[.slice p n c, .int .i64 t] w fun e w' => ∃ k : Nat, k ≤ n ∧ (∀ i, i < k → D (i * 2) < t) ∧ (∀ i, k ≤ i → i < n → t ≤ D (i * 2)) ∧ e = .returned (.tuple #[.int .i64 k, .bool (foundB n D t k)]) ∧ Below w.heap.size w w' := by
  have hc := search_c p n c D t hn w hD hs
  replace hc := Lib.hid hc
  clear hD hs
  go_enter Try.func108, Try.ntmps108
  go_wp2_with fail
  refine hc.out.mono ?_
  rintro e w1 ⟨k, h1, h2, h3, rfl, hb⟩
  replace h2 := Lib.hid h2
  replace h3 := Lib.hid h3
  go_wp2
  go_returns
  exact ⟨k, h1, h2.out, h3.out, rfl, hb⟩
/-- has a vector a dot? -/
def hasD (n : Nat) (D : Nat → Int) (t s : Int) : Bool := decide (∃ i, i < n ∧ D (i * 2) = t ∧ s ≤ D (i * 2 + 1))
theorem rightD_lt {n : Nat} {D : Nat → Int} (h : RightD n D) : ∀ i j, i < j → j < n → D (i * 2) < D (j * 2) := by
  intro i j hij hj
  induction j with
  | zero => omega
  | succ j ih =>
    have h1 := (h (j + 1) hj).2 (by omega)
    rw [Nat.add_sub_cancel] at h1
    rcases Nat.lt_or_ge i j with h2 | h2
    · exact Int.lt_trans (ih h2 (by omega)) h1
    · obtain rfl : i = j := by omega
      exact h1
set_option maxRecDepth 20000 in
set_option maxHeartbeats 2000000 in
theorem has_c (p : Option Addr) (n c : Nat) (D : Nat → Int) (t s : Int) (hn : n ≤ 1000000) (w : World) (hD : DotsAt w p n D) (hs : ∀ i j, i < j → j < n → D (i * 2) < D (j * 2)) :
    Calls Try.prog 99 #[.slice p n c, .agg #[.int .i64 t, .int .i64 s]] w fun e w' => e = .returned (.bool (hasD n D t s)) ∧ Below w.heap.size w w' := by
  have hp : p = none ∨ p ≠ none := by cases p <;> simp
  have hat := fun w' hb => at_c p n c D t hn w' (hD.below (w := w) (w' := w') hb) hs
  replace hat := Lib.hid hat
  replace hs := Lib.hid hs
  replace hD := Lib.hid hD
  go_enter Try.func99, Try.ntmps99
  go_wp2_with fail
  refine calls_at (fun W0 hW => ?_)
  have hG : Blk W0 w.heap.size 86 #[.int .i64 t, .int .i64 s] := by rw [hW]; exact Blk.new _ _ _
  have hb0 : Below w.heap.size w W0 := by rw [hW]; exact (Below.refl _ _).alloc (Nat.le_refl _) _
  clear hW
  refine (hat.out W0 hb0).mono ?_
  rintro e w1 ⟨k, h1, h2, h3, rfl, hb⟩
  replace hG := hG.below hb
  replace hb0 := hb0.trans (hb.mono hb0.size)
  clear hb hat
  cases hf : foundB n D t k
  · have hr : hasD n D t s = false := decide_eq_false (fun ⟨i, hi, he, _⟩ => by
      simp only [foundB, decide_eq_false_iff_not, not_and] at hf
      rcases Nat.lt_or_ge i k with h | h
      · have := h2 i h; omega
      · have h4 := h3 i h hi
        rcases Nat.lt_or_ge k i with h5 | h5
        · have h6 := hs.out k i h5 hi
          have h7 := h3 k (Nat.le_refl _) (by omega)
          omega
        · obtain rfl : i = k := by omega
          exact hf hi he)
    replace hr := Lib.hid hr
    clear h2 h3 hf hs
    have c0 := hG.cell 0
    have c1 := hG.cell 1
    go_wp2
    go_region
    go_wp2
    go_returns
    exact ⟨by rw [hr.out]; rfl, hb0.drew⟩
  · have hk : k < n ∧ D (k * 2) = t := of_decide_eq_true hf
    obtain ⟨g, o, rfl, hg, hc⟩ := (hD.out.below hb0) (by omega)
    have c2 := hc (k * 2 + 1) (by omega)
    rw [← Nat.add_assoc] at c2
    have hr : hasD n D t s = decide (s ≤ D (k * 2 + 1)) := by
      refine decide_eq_decide.2 ⟨fun ⟨i, hi, he, hsq⟩ => ?_, fun h => ⟨k, hk.1, hk.2, h⟩⟩
      rcases Nat.lt_or_ge i k with h | h
      · have := hs.out i k h hk.1; have := hk.2; omega
      · rcases Nat.lt_or_ge k i with h5 | h5
        · have := hs.out k i h5 hi; have := hk.2; omega
        · obtain rfl : i = k := by omega
          exact hsq
    replace hr := Lib.hid hr
    have hk0 : (0 : Int) ≤ (k : Int) := by omega
    have hk1 : (k : Int) < (n : Int) := by have := hk.1; omega
    clear h2 h3 hf hs hk hc hD
    have c0 := hG.cell 0
    have c1 := hG.cell 1
    simp only [List.getElem?_toArray, List.getElem?_cons_zero] at c0
    simp only [List.getElem?_toArray, List.getElem?_cons_zero, List.getElem?_cons_succ] at c1
    go_wp2
    go_region
    go_wp2
    go_returns
    exact ⟨by rw [hr.out]; rfl, hb0.drew⟩
set_option maxHeartbeats 2000000 in
theorem vright_c (p : Option Addr) (n c : Nat) (D : Nat → Int) (hn : n ≤ 1000000) (w : World) (hD : DotsAt w p n D) : Calls Try.prog 75 #[.slice p n c] w fun e w' => e = .returned (.bool (rightD n D)) ∧ Below w.heap.size w w' := by
  have hr := dotsRight_c p n c D hn w hD
  replace hr := Lib.hid hr
  clear hD
  go_enter Try.func75, Try.ntmps75
  go_wp2_with fail
  refine hr.out.mono ?_
  rintro e w1 ⟨rfl, hb⟩
  go_wp2
  go_returns
  exact ⟨rfl, hb⟩
def hasV (n : Nat) (D : Nat → Int) (t s : Int) : Bool := rightD n D && (okD t s && hasD n D t s)
set_option maxRecDepth 20000 in
set_option maxHeartbeats 2000000 in
theorem vhas_c (p : Option Addr) (n c : Nat) (D : Nat → Int) (t s : Int) (hn : n ≤ 1000000) (w : World) (hD : DotsAt w p n D) : Calls Try.prog 77 #[.slice p n c, .agg #[.int .i64 t, .int .i64 s]] w fun e w' => e = .returned (.bool (hasV n D t s)) ∧ Below w.heap.size w w' := by
  have hr := fun w' hb => vright_c p n c D hn w' (hD.below (w := w) (w' := w') hb)
  have ho := right_c t s
  have hh := fun w' hb hs => has_c p n c D t s hn w' (hD.below (w := w) (w' := w') hb) hs
  replace hr := Lib.hid hr
  replace ho := Lib.hid ho
  replace hh := Lib.hid hh
  clear hD
  go_enter Try.func77, Try.ntmps77
  go_wp2_with fail
  refine calls_at (fun W0 hW => ?_)
  have hG : Blk W0 w.heap.size 86 #[.int .i64 t, .int .i64 s] := by rw [hW]; exact Blk.new _ _ _
  have hb0 : Below w.heap.size w W0 := by rw [hW]; exact (Below.refl _ _).alloc (Nat.le_refl _) _
  clear hW
  refine (hr.out W0 hb0).mono ?_
  rintro e w1 ⟨rfl, hb⟩
  replace hG := hG.below hb
  replace hb0 := hb0.trans (hb.mono hb0.size)
  clear hb hr
  obtain ⟨c0, c1⟩ := blk2 hG
  cases hf : rightD n D
  · have hv : hasV n D t s = false := by unfold hasV; rw [hf]; rfl
    replace hv := Lib.hid hv
    clear hf
    go_wp2
    go_returns
    exact ⟨by rw [hv.out]; rfl, hb0⟩
  · have hs := rightD_lt (of_decide_eq_true hf)
    replace hs := Lib.hid hs
    go_wp2_with fail
    refine (ho.out _).mono ?_
    rintro e w2 ⟨rfl, hb⟩
    replace hG := hG.below hb
    replace hb0 := hb0.trans (hb.mono hb0.size)
    clear hb ho c0 c1
    obtain ⟨c0, c1⟩ := blk2 hG
    cases hk : okD t s
    · have hv : hasV n D t s = false := by unfold hasV; rw [hf, hk]; rfl
      replace hv := Lib.hid hv
      clear hf hk
      go_wp2
      go_returns
      exact ⟨by rw [hv.out]; rfl, hb0⟩
    · have hv : hasV n D t s = hasD n D t s := by unfold hasV; rw [hf, hk]; rfl
      replace hv := Lib.hid hv
      clear hf hk
      go_wp2_with fail
      refine (hh.out w2 hb0 hs.out).mono ?_
      rintro e w3 ⟨rfl, hb⟩
      go_wp2
      go_returns
      exact ⟨by rw [hv.out]; rfl, hb0.trans (hb.mono hb0.size)⟩
end Go.Proofs.Ytdgaoljobpneaaa
