/- The walks of the reference's Has and Covers. -/
import Derived.Test.YtofgkfdfondajaaGreatRr
namespace Go.Proofs.YtofgkfdfondajaaGreat
open Go.RowKit
def rh1L (p : Option Addr) (n c : Nat) : List (Value → World → Prop) := [
  Eq1 (.slice p n c),
  Eq1 (.bool false),
  Eq1 (.bool false),
  Eq1 (undef),
  Eq1 (undef),
  Eq1 (.bool false),
  Eq1 (.bool false),
  Eq1 (undef),
  Eq1 (undef),
  Eq1 (undef),
  Eq1 (undef),
  Eq1 (undef),
  Eq1 (undef),
  Eq1 (undef),
  Eq1 (.bool false),
  Eq1 (.bool false)]
theorem rh1S (p : Option Addr) (n c : Nat) : ∀ j x' q q', (rh1L p n c).getD j (fun _ _ => True) x' q → Below q.heap.size q q' → (rh1L p n c).getD j (fun _ _ => True) x' q' := by
  refine sta_all _ ?_
  simp only [rh1L, List.mem_cons, forall_eq_or_imp, List.not_mem_nil, false_implies, implies_true, and_true]
  exact ⟨sta_eq _, sta_eq _, sta_eq _, sta_eq _, sta_eq _, sta_eq _, sta_eq _, sta_eq _, sta_eq _, sta_eq _, sta_eq _, sta_eq _, sta_eq _, sta_eq _, sta_eq _, sta_eq _⟩
def rh2L (p : Option Addr) (n c : Nat) (t s : Int) : List (Value → World → Prop) := [
  Eq1 (.slice p n c),
  Eq1 (.bool true),
  Eq1 (.bool true),
  Eq1 (.agg #[.int .i64 t, .int .i64 s]),
  Eq1 (.bool false),
  Eq1 (.bool false),
  Eq1 (.bool false),
  Eq1 (undef),
  Eq1 (undef),
  Eq1 (undef),
  Eq1 (undef),
  Eq1 (undef),
  Eq1 (undef),
  Eq1 (undef),
  Eq1 (.bool false),
  Eq1 (.bool false)]
theorem rh2S (p : Option Addr) (n c : Nat) (t s : Int) : ∀ j x' q q', (rh2L p n c t s).getD j (fun _ _ => True) x' q → Below q.heap.size q q' → (rh2L p n c t s).getD j (fun _ _ => True) x' q' := by
  refine sta_all _ ?_
  simp only [rh2L, List.mem_cons, forall_eq_or_imp, List.not_mem_nil, false_implies, implies_true, and_true]
  exact ⟨sta_eq _, sta_eq _, sta_eq _, sta_eq _, sta_eq _, sta_eq _, sta_eq _, sta_eq _, sta_eq _, sta_eq _, sta_eq _, sta_eq _, sta_eq _, sta_eq _, sta_eq _, sta_eq _⟩
def rh3L (p : Option Addr) (n c : Nat) (w : World) (t s u : Int) : List (Value → World → Prop) := [
  Eq1 (.slice p n c),
  Eq1 (.bool true),
  Eq1 (.bool true),
  Eq1 (.agg #[.int .i64 t, .int .i64 s]),
  Eq1 (.bool true),
  Eq1 (.bool true),
  Eq1 (.bool true),
  Eq1 (.slice p n c),
  Eq1 (.pointer (some ⟨w.heap.size, 0, none⟩)),
  Eq1 (.int .i64 t),
  Eq1 (.int .i64 u),
  Eq1 (.pointer (some ⟨w.heap.size, 1, none⟩)),
  Eq1 (.int .i64 s),
  Eq1 (.bool (decide (s ≤ u))),
  Eq1 (.bool (decide (s ≤ u))),
  Eq1 (.bool (decide (s ≤ u)))]
theorem rh3S (p : Option Addr) (n c : Nat) (w : World) (t s u : Int) : ∀ j x' q q', (rh3L p n c w t s u).getD j (fun _ _ => True) x' q → Below q.heap.size q q' → (rh3L p n c w t s u).getD j (fun _ _ => True) x' q' := by
  refine sta_all _ ?_
  simp only [rh3L, List.mem_cons, forall_eq_or_imp, List.not_mem_nil, false_implies, implies_true, and_true]
  exact ⟨sta_eq _, sta_eq _, sta_eq _, sta_eq _, sta_eq _, sta_eq _, sta_eq _, sta_eq _, sta_eq _, sta_eq _, sta_eq _, sta_eq _, sta_eq _, sta_eq _, sta_eq _, sta_eq _⟩
def hasR (n : Nat) (D : Nat → Int) (t s : Int) : Bool := rightD n D && (okD t s && decide (s ≤ upD n D t))
theorem hasR_eq (n : Nat) (D : Nat → Int) (t s : Int) : hasR n D t s = hasV n D t s := by
  unfold hasR hasV
  cases h : rightD n D
  · rfl
  · cases h2 : okD t s
    · rfl
    · have hR : RightD n D := of_decide_eq_true h
      have := of_decide_eq_true h2
      rw [hasD_val hR (by omega), upD_val hR]
set_option maxRecDepth 20000 in
set_option maxHeartbeats 2000000 in
theorem rhas_c (p : Option Addr) (n c : Nat) (D : Nat → Int) (t s : Int) (hn : n ≤ 1000000) (w : World) (hD : DotsAt w p n D) : Calls Tryz.prog 28 #[.slice p n c, .agg #[.int .i64 t, .int .i64 s]] w fun e w' => e = .returned (.bool (hasR n D t s)) ∧ Below w.heap.size w w' := by
  have hr := fun w' hb => rright_c p n c D hn w' (hD.below (w := w) (w' := w') hb)
  have hd := rdot_c t s
  have hu := fun w' hb => up_c p n c D t hn w' (hD.below (w := w) (w' := w') hb)
  have hv : hasR n D t s = (rightD n D && (okD t s && decide (s ≤ upD n D t))) := rfl
  generalize upD n D t = u at *
  generalize hasR n D t s = z at *
  replace hv := Lib.hid hv
  replace hr := Lib.hid hr
  replace hu := Lib.hid hu
  replace hd := Lib.hid hd
  clear hD
  go_enter Tryz.func28, Tryz.ntmps28
  go_wp2
  refine at_world (fun W0 hW => ?_)
  have hX : Blk W0 w.heap.size 35 #[.int .i64 t, .int .i64 s] := by rw [hW]; exact Blk.new _ _ _
  have hb : Below w.heap.size w W0 := by rw [hW]; exact (Below.refl _ _).alloc (Nat.le_refl _) _
  clear hW
  have hr1 := fun w' (hb2 : Below W0.heap.size W0 w') => hr.out w' (hb.trans (hb2.mono hb.size))
  replace hr := Lib.hid hr1
  clear hr1
  have hu1 := fun w' (hb2 : Below W0.heap.size W0 w') => hu.out w' (hb.trans (hb2.mono hb.size))
  replace hu := Lib.hid hu1
  clear hu1
  have hb0 := hb
  clear hb
  have hsz := hb0.size
  cases hR : rightD n D
  · rw [hR] at hr hv
    have hz := hv.out
    simp only [Bool.false_and] at hz
    subst hz
    clear hv hR hu
    refine wp_region_grow2 16 (fun k => (Nat.ble 4 k && Nat.ble k 19)) _ [] (fun j x' q => (rh1L p n c).getD j (fun _ _ => True) x' q) (fun _ => false) (fun f => #[.slice p n c, .agg #[.int .i64 t, .int .i64 s], undef, .pointer (some ⟨w.heap.size, 0, none⟩), f 4, f 5, f 6, f 7, f 8, f 9, f 10, f 11, f 12, f 13, f 14, f 15, f 16, f 17, f 18, f 19]) (fun f => rfl) (by kernel_rfl) (by kernel_rfl) (by kernel_rfl) (by kernel_rfl) (by kernel_rfl) (rh1S _ _ _) (fun _ _ _ h => by cases h) ?_ ?_
    · refine steps2_cons ?_ ?_
      · intro f w1 hb hd Q hK
        clear hd
        have hK := Lib.hid hK
        go_wp2
        exact hK.out _ _ rfl (Below.refl _ _) (fun h => by cases h)
      refine steps2_cons ?_ ?_
      · intro f w1 hb hd Q hK
        have e5 : f 5 = .slice p n c := hd.1 rfl
        clear hd
        simp only [e5] at hK
        have hK := Lib.hid hK
        go_wp2_with fail
        refine (hr.out _ hb).mono ?_
        rintro e w2 ⟨rfl, hb2⟩
        go_wp2
        exact hK.out _ _ rfl hb2 (fun h => by cases h)
      refine steps2_cons ?_ ?_
      · intro f w1 hb hd Q hK
        have e6 : f 6 = .bool false := hd.1 rfl
        clear hd
        simp only [e6] at hK
        have hK := Lib.hid hK
        go_wp2
        exact hK.out _ _ rfl (Below.refl _ _) (fun h => by cases h)
      refine steps2_cons ?_ ?_
      · intro f w1 hb hd Q hK
        have e7 : f 7 = .bool false := hd.1 rfl
        clear hd
        simp only [e7] at hK
        have hK := Lib.hid hK
        go_wp2
        exact hK.out _ _ rfl (Below.refl _ _) (fun h => by cases h)
      refine steps2_cons ?_ ?_
      · intro f w1 hb hd Q hK
        have e8 : f 8 = undef := hd.1 rfl
        have e7 : f 7 = .bool false := hd.2.1 rfl
        clear hd
        simp only [e8, e7] at hK
        have hK := Lib.hid hK
        go_wp2
        exact hK.out _ _ rfl (Below.refl _ _) (fun h => by cases h)
      refine steps2_cons ?_ ?_
      · intro f w1 hb hd Q hK
        have e7 : f 7 = .bool false := hd.1 rfl
        have e9 : f 9 = undef := hd.2.1 rfl
        clear hd
        simp only [e7, e9] at hK
        have hK := Lib.hid hK
        go_wp2
        exact hK.out _ _ rfl (Below.refl _ _) (fun h => by cases h)
      refine steps2_cons ?_ ?_
      · intro f w1 hb hd Q hK
        have e10 : f 10 = .bool false := hd.1 rfl
        clear hd
        simp only [e10] at hK
        have hK := Lib.hid hK
        go_wp2
        exact hK.out _ _ rfl (Below.refl _ _) (fun h => by cases h)
      refine steps2_cons ?_ ?_
      · intro f w1 hb hd Q hK
        have e11 : f 11 = .bool false := hd.1 rfl
        clear hd
        simp only [e11] at hK
        have hK := Lib.hid hK
        go_wp2
        exact hK.out _ _ rfl (Below.refl _ _) (fun h => by cases h)
      refine steps2_cons ?_ ?_
      · intro f w1 hb hd Q hK
        have e11 : f 11 = .bool false := hd.1 rfl
        clear hd
        simp only [e11] at hK
        have hK := Lib.hid hK
        go_wp2
        exact hK.out _ _ rfl (Below.refl _ _) (fun h => by cases h)
      refine steps2_cons ?_ ?_
      · intro f w1 hb hd Q hK
        have e13 : f 13 = undef := hd.1 rfl
        have e11 : f 11 = .bool false := hd.2.1 rfl
        clear hd
        simp only [e13, e11] at hK
        have hK := Lib.hid hK
        go_wp2
        exact hK.out _ _ rfl (Below.refl _ _) (fun h => by cases h)
      refine steps2_cons ?_ ?_
      · intro f w1 hb hd Q hK
        have e12 : f 12 = undef := hd.1 rfl
        have e14 : f 14 = undef := hd.2.1 rfl
        have e11 : f 11 = .bool false := hd.2.2.1 rfl
        clear hd
        simp only [e12, e14, e11] at hK
        have hK := Lib.hid hK
        go_wp2
        exact hK.out _ _ rfl (Below.refl _ _) (fun h => by cases h)
      refine steps2_cons ?_ ?_
      · intro f w1 hb hd Q hK
        have e11 : f 11 = .bool false := hd.1 rfl
        clear hd
        simp only [e11] at hK
        have hK := Lib.hid hK
        go_wp2
        exact hK.out _ _ rfl (Below.refl _ _) (fun h => by cases h)
      refine steps2_cons ?_ ?_
      · intro f w1 hb hd Q hK
        have e16 : f 16 = undef := hd.1 rfl
        have e11 : f 11 = .bool false := hd.2.1 rfl
        clear hd
        simp only [e16, e11] at hK
        have hK := Lib.hid hK
        go_wp2
        exact hK.out _ _ rfl (Below.refl _ _) (fun h => by cases h)
      refine steps2_cons ?_ ?_
      · intro f w1 hb hd Q hK
        have e15 : f 15 = undef := hd.1 rfl
        have e17 : f 17 = undef := hd.2.1 rfl
        have e11 : f 11 = .bool false := hd.2.2.1 rfl
        clear hd
        simp only [e15, e17, e11] at hK
        have hK := Lib.hid hK
        go_wp2
        exact hK.out _ _ rfl (Below.refl _ _) (fun h => by cases h)
      refine steps2_cons ?_ ?_
      · intro f w1 hb hd Q hK
        have e11 : f 11 = .bool false := hd.1 rfl
        have e18 : f 18 = undef := hd.2.1 rfl
        clear hd
        simp only [e11, e18] at hK
        have hK := Lib.hid hK
        go_wp2
        exact hK.out _ _ rfl (Below.refl _ _) (fun h => by cases h)
      refine steps2_cons ?_ ?_
      · intro f w1 hb hd Q hK
        have e19 : f 19 = .bool false := hd.1 rfl
        clear hd
        simp only [e19] at hK
        have hK := Lib.hid hK
        go_wp2
        exact hK.out _ _ rfl (Below.refl _ _) (fun h => by cases h)
      trivial
    · intro f w1 hb2 hf hne
      refine wpList_nil ?_
      have d4 : f 4 = .bool false := hf 15 _ _ (by decide) rfl rfl
      clear hf hne
      simp only [d4]
      clear d4
      have hb9 := hb0.trans (hb2.mono hsz)
      go_wp2
      go_returns
      exact ⟨rfl, hb9⟩
  · rw [hR] at hr hv
    clear hR
    cases hK : okD t s
    · rw [hK] at hd hv
      have hz := hv.out
      simp only [Bool.true_and, Bool.false_and] at hz
      subst hz
      clear hv hK hu
      refine wp_region_grow2 16 (fun k => (Nat.ble 4 k && Nat.ble k 19)) _ [] (fun j x' q => (rh2L p n c t s).getD j (fun _ _ => True) x' q) (fun _ => false) (fun f => #[.slice p n c, .agg #[.int .i64 t, .int .i64 s], undef, .pointer (some ⟨w.heap.size, 0, none⟩), f 4, f 5, f 6, f 7, f 8, f 9, f 10, f 11, f 12, f 13, f 14, f 15, f 16, f 17, f 18, f 19]) (fun f => rfl) (by kernel_rfl) (by kernel_rfl) (by kernel_rfl) (by kernel_rfl) (by kernel_rfl) (rh2S _ _ _ _ _) (fun _ _ _ h => by cases h) ?_ ?_
      · refine steps2_cons ?_ ?_
        · intro f w1 hb hd Q hK
          clear hd
          have hK := Lib.hid hK
          go_wp2
          exact hK.out _ _ rfl (Below.refl _ _) (fun h => by cases h)
        refine steps2_cons ?_ ?_
        · intro f w1 hb hd Q hK
          have e5 : f 5 = .slice p n c := hd.1 rfl
          clear hd
          simp only [e5] at hK
          have hK := Lib.hid hK
          go_wp2_with fail
          refine (hr.out _ hb).mono ?_
          rintro e w2 ⟨rfl, hb2⟩
          go_wp2
          exact hK.out _ _ rfl hb2 (fun h => by cases h)
        refine steps2_cons ?_ ?_
        · intro f w1 hb hd Q hK
          have e6 : f 6 = .bool true := hd.1 rfl
          clear hd
          simp only [e6] at hK
          have hK := Lib.hid hK
          go_wp2
          exact hK.out _ _ rfl (Below.refl _ _) (fun h => by cases h)
        refine steps2_cons ?_ ?_
        · intro f w1 hb hd Q hK
          have e7 : f 7 = .bool true := hd.1 rfl
          clear hd
          simp only [e7] at hK
          have hK := Lib.hid hK
          obtain ⟨c0, c1⟩ := blk2 (hX.below hb)
          go_wp2
          exact hK.out _ _ rfl (Below.refl _ _) (fun h => by cases h)
        refine steps2_cons ?_ ?_
        · intro f w1 hb hd Q hK
          have e8 : f 8 = .agg #[.int .i64 t, .int .i64 s] := hd.1 rfl
          have e7 : f 7 = .bool true := hd.2.1 rfl
          clear hd
          simp only [e8, e7] at hK
          have hK := Lib.hid hK
          go_wp2_with fail
          refine (hd.out _).mono ?_
          rintro e w2 ⟨rfl, hb2⟩
          go_wp2
          exact hK.out _ _ rfl hb2 (fun h => by cases h)
        refine steps2_cons ?_ ?_
        · intro f w1 hb hd Q hK
          have e7 : f 7 = .bool true := hd.1 rfl
          have e9 : f 9 = .bool false := hd.2.1 rfl
          clear hd
          simp only [e7, e9] at hK
          have hK := Lib.hid hK
          go_wp2
          exact hK.out _ _ rfl (Below.refl _ _) (fun h => by cases h)
        refine steps2_cons ?_ ?_
        · intro f w1 hb hd Q hK
          have e10 : f 10 = .bool false := hd.1 rfl
          clear hd
          simp only [e10] at hK
          have hK := Lib.hid hK
          go_wp2
          exact hK.out _ _ rfl (Below.refl _ _) (fun h => by cases h)
        refine steps2_cons ?_ ?_
        · intro f w1 hb hd Q hK
          have e11 : f 11 = .bool false := hd.1 rfl
          clear hd
          simp only [e11] at hK
          have hK := Lib.hid hK
          go_wp2
          exact hK.out _ _ rfl (Below.refl _ _) (fun h => by cases h)
        refine steps2_cons ?_ ?_
        · intro f w1 hb hd Q hK
          have e11 : f 11 = .bool false := hd.1 rfl
          clear hd
          simp only [e11] at hK
          have hK := Lib.hid hK
          go_wp2
          exact hK.out _ _ rfl (Below.refl _ _) (fun h => by cases h)
        refine steps2_cons ?_ ?_
        · intro f w1 hb hd Q hK
          have e13 : f 13 = undef := hd.1 rfl
          have e11 : f 11 = .bool false := hd.2.1 rfl
          clear hd
          simp only [e13, e11] at hK
          have hK := Lib.hid hK
          go_wp2
          exact hK.out _ _ rfl (Below.refl _ _) (fun h => by cases h)
        refine steps2_cons ?_ ?_
        · intro f w1 hb hd Q hK
          have e12 : f 12 = undef := hd.1 rfl
          have e14 : f 14 = undef := hd.2.1 rfl
          have e11 : f 11 = .bool false := hd.2.2.1 rfl
          clear hd
          simp only [e12, e14, e11] at hK
          have hK := Lib.hid hK
          go_wp2
          exact hK.out _ _ rfl (Below.refl _ _) (fun h => by cases h)
        refine steps2_cons ?_ ?_
        · intro f w1 hb hd Q hK
          have e11 : f 11 = .bool false := hd.1 rfl
          clear hd
          simp only [e11] at hK
          have hK := Lib.hid hK
          go_wp2
          exact hK.out _ _ rfl (Below.refl _ _) (fun h => by cases h)
        refine steps2_cons ?_ ?_
        · intro f w1 hb hd Q hK
          have e16 : f 16 = undef := hd.1 rfl
          have e11 : f 11 = .bool false := hd.2.1 rfl
          clear hd
          simp only [e16, e11] at hK
          have hK := Lib.hid hK
          go_wp2
          exact hK.out _ _ rfl (Below.refl _ _) (fun h => by cases h)
        refine steps2_cons ?_ ?_
        · intro f w1 hb hd Q hK
          have e15 : f 15 = undef := hd.1 rfl
          have e17 : f 17 = undef := hd.2.1 rfl
          have e11 : f 11 = .bool false := hd.2.2.1 rfl
          clear hd
          simp only [e15, e17, e11] at hK
          have hK := Lib.hid hK
          go_wp2
          exact hK.out _ _ rfl (Below.refl _ _) (fun h => by cases h)
        refine steps2_cons ?_ ?_
        · intro f w1 hb hd Q hK
          have e11 : f 11 = .bool false := hd.1 rfl
          have e18 : f 18 = undef := hd.2.1 rfl
          clear hd
          simp only [e11, e18] at hK
          have hK := Lib.hid hK
          go_wp2
          exact hK.out _ _ rfl (Below.refl _ _) (fun h => by cases h)
        refine steps2_cons ?_ ?_
        · intro f w1 hb hd Q hK
          have e19 : f 19 = .bool false := hd.1 rfl
          clear hd
          simp only [e19] at hK
          have hK := Lib.hid hK
          go_wp2
          exact hK.out _ _ rfl (Below.refl _ _) (fun h => by cases h)
        trivial
      · intro f w1 hb2 hf hne
        refine wpList_nil ?_
        have d4 : f 4 = .bool false := hf 15 _ _ (by decide) rfl rfl
        clear hf hne
        simp only [d4]
        clear d4
        have hb9 := hb0.trans (hb2.mono hsz)
        go_wp2
        go_returns
        exact ⟨rfl, hb9⟩
    · rw [hK] at hd hv
      have hz := hv.out
      simp only [Bool.true_and] at hz
      subst hz
      clear hv hK
      refine wp_region_grow2 16 (fun k => (Nat.ble 4 k && Nat.ble k 19)) _ [] (fun j x' q => (rh3L p n c w t s u).getD j (fun _ _ => True) x' q) (fun _ => false) (fun f => #[.slice p n c, .agg #[.int .i64 t, .int .i64 s], undef, .pointer (some ⟨w.heap.size, 0, none⟩), f 4, f 5, f 6, f 7, f 8, f 9, f 10, f 11, f 12, f 13, f 14, f 15, f 16, f 17, f 18, f 19]) (fun f => rfl) (by kernel_rfl) (by kernel_rfl) (by kernel_rfl) (by kernel_rfl) (by kernel_rfl) (rh3S _ _ _ _ _ _ _) (fun _ _ _ h => by cases h) ?_ ?_
      · refine steps2_cons ?_ ?_
        · intro f w1 hb hd Q hK
          clear hd
          have hK := Lib.hid hK
          go_wp2
          exact hK.out _ _ rfl (Below.refl _ _) (fun h => by cases h)
        refine steps2_cons ?_ ?_
        · intro f w1 hb hd Q hK
          have e5 : f 5 = .slice p n c := hd.1 rfl
          clear hd
          simp only [e5] at hK
          have hK := Lib.hid hK
          go_wp2_with fail
          refine (hr.out _ hb).mono ?_
          rintro e w2 ⟨rfl, hb2⟩
          go_wp2
          exact hK.out _ _ rfl hb2 (fun h => by cases h)
        refine steps2_cons ?_ ?_
        · intro f w1 hb hd Q hK
          have e6 : f 6 = .bool true := hd.1 rfl
          clear hd
          simp only [e6] at hK
          have hK := Lib.hid hK
          go_wp2
          exact hK.out _ _ rfl (Below.refl _ _) (fun h => by cases h)
        refine steps2_cons ?_ ?_
        · intro f w1 hb hd Q hK
          have e7 : f 7 = .bool true := hd.1 rfl
          clear hd
          simp only [e7] at hK
          have hK := Lib.hid hK
          obtain ⟨c0, c1⟩ := blk2 (hX.below hb)
          go_wp2
          exact hK.out _ _ rfl (Below.refl _ _) (fun h => by cases h)
        refine steps2_cons ?_ ?_
        · intro f w1 hb hd Q hK
          have e8 : f 8 = .agg #[.int .i64 t, .int .i64 s] := hd.1 rfl
          have e7 : f 7 = .bool true := hd.2.1 rfl
          clear hd
          simp only [e8, e7] at hK
          have hK := Lib.hid hK
          go_wp2_with fail
          refine (hd.out _).mono ?_
          rintro e w2 ⟨rfl, hb2⟩
          go_wp2
          exact hK.out _ _ rfl hb2 (fun h => by cases h)
        refine steps2_cons ?_ ?_
        · intro f w1 hb hd Q hK
          have e7 : f 7 = .bool true := hd.1 rfl
          have e9 : f 9 = .bool true := hd.2.1 rfl
          clear hd
          simp only [e7, e9] at hK
          have hK := Lib.hid hK
          go_wp2
          exact hK.out _ _ rfl (Below.refl _ _) (fun h => by cases h)
        refine steps2_cons ?_ ?_
        · intro f w1 hb hd Q hK
          have e10 : f 10 = .bool true := hd.1 rfl
          clear hd
          simp only [e10] at hK
          have hK := Lib.hid hK
          go_wp2
          exact hK.out _ _ rfl (Below.refl _ _) (fun h => by cases h)
        refine steps2_cons ?_ ?_
        · intro f w1 hb hd Q hK
          have e11 : f 11 = .bool true := hd.1 rfl
          clear hd
          simp only [e11] at hK
          have hK := Lib.hid hK
          go_wp2
          exact hK.out _ _ rfl (Below.refl _ _) (fun h => by cases h)
        refine steps2_cons ?_ ?_
        · intro f w1 hb hd Q hK
          have e11 : f 11 = .bool true := hd.1 rfl
          clear hd
          simp only [e11] at hK
          have hK := Lib.hid hK
          go_wp2
          exact hK.out _ _ rfl (Below.refl _ _) (fun h => by cases h)
        refine steps2_cons ?_ ?_
        · intro f w1 hb hd Q hK
          have e13 : f 13 = .pointer (some ⟨w.heap.size, 0, none⟩) := hd.1 rfl
          have e11 : f 11 = .bool true := hd.2.1 rfl
          clear hd
          simp only [e13, e11] at hK
          have hK := Lib.hid hK
          have c0 := (hX.below hb).cell 0
          simp only [List.getElem?_toArray, List.getElem?_cons_zero] at c0
          go_wp2
          exact hK.out _ _ rfl (Below.refl _ _) (fun h => by cases h)
        refine steps2_cons ?_ ?_
        · intro f w1 hb hd Q hK
          have e12 : f 12 = .slice p n c := hd.1 rfl
          have e14 : f 14 = .int .i64 t := hd.2.1 rfl
          have e11 : f 11 = .bool true := hd.2.2.1 rfl
          clear hd
          simp only [e12, e14, e11] at hK
          have hK := Lib.hid hK
          go_wp2_with fail
          refine (hu.out _ hb).mono ?_
          rintro e w2 ⟨rfl, hb2⟩
          go_wp2
          exact hK.out _ _ rfl hb2 (fun h => by cases h)
        refine steps2_cons ?_ ?_
        · intro f w1 hb hd Q hK
          have e11 : f 11 = .bool true := hd.1 rfl
          clear hd
          simp only [e11] at hK
          have hK := Lib.hid hK
          go_wp2
          exact hK.out _ _ rfl (Below.refl _ _) (fun h => by cases h)
        refine steps2_cons ?_ ?_
        · intro f w1 hb hd Q hK
          have e16 : f 16 = .pointer (some ⟨w.heap.size, 1, none⟩) := hd.1 rfl
          have e11 : f 11 = .bool true := hd.2.1 rfl
          clear hd
          simp only [e16, e11] at hK
          have hK := Lib.hid hK
          have c0 := (hX.below hb).cell 1
          simp only [List.getElem?_toArray, List.getElem?_cons_zero, List.getElem?_cons_succ] at c0
          go_wp2
          exact hK.out _ _ rfl (Below.refl _ _) (fun h => by cases h)
        refine steps2_cons ?_ ?_
        · intro f w1 hb hd Q hK
          have e15 : f 15 = .int .i64 u := hd.1 rfl
          have e17 : f 17 = .int .i64 s := hd.2.1 rfl
          have e11 : f 11 = .bool true := hd.2.2.1 rfl
          clear hd
          simp only [e15, e17, e11] at hK
          have hK := Lib.hid hK
          go_wp2
          exact hK.out _ _ rfl (Below.refl _ _) (fun h => by cases h)
        refine steps2_cons ?_ ?_
        · intro f w1 hb hd Q hK
          have e11 : f 11 = .bool true := hd.1 rfl
          have e18 : f 18 = .bool (decide (s ≤ u)) := hd.2.1 rfl
          clear hd
          simp only [e11, e18] at hK
          have hK := Lib.hid hK
          go_wp2
          exact hK.out _ _ rfl (Below.refl _ _) (fun h => by cases h)
        refine steps2_cons ?_ ?_
        · intro f w1 hb hd Q hK
          have e19 : f 19 = .bool (decide (s ≤ u)) := hd.1 rfl
          clear hd
          simp only [e19] at hK
          have hK := Lib.hid hK
          go_wp2
          exact hK.out _ _ rfl (Below.refl _ _) (fun h => by cases h)
        trivial
      · intro f w1 hb2 hf hne
        refine wpList_nil ?_
        have d4 : f 4 = .bool (decide (s ≤ u)) := hf 15 _ _ (by decide) rfl rfl
        clear hf hne
        simp only [d4]
        clear d4
        have hb9 := hb0.trans (hb2.mono hsz)
        go_wp2
        go_returns
        exact ⟨rfl, hb9⟩
/-- all of a row's dots had, by the reference -/
def covR (n : Nat) (D : Nat → Int) (m : Nat) (E : Nat → Int) : Bool := rightD n D && (rightD m E && decide (∀ i, i < m → hasR n D (E (i * 2)) (E (i * 2 + 1)) = true))
theorem covR_eq (n : Nat) (D : Nat → Int) (m : Nat) (E : Nat → Int) : covR n D m E = covB n D m E := by
  unfold covR covB anyF
  cases h : rightD n D
  · rfl
  · cases h2 : rightD m E
    · rfl
    · have hD : RightD n D := of_decide_eq_true h
      have hE : RightD m E := of_decide_eq_true h2
      have h3 : ∀ i, i < m → hasR n D (E (i * 2)) (E (i * 2 + 1)) = hasD n D (E (i * 2)) (E (i * 2 + 1)) := fun i hi => by
        rw [hasR_eq]
        unfold hasV
        rw [h, (hE i hi).1]
        rfl
      simp only [Bool.true_and]
      rw [← decide_not]
      refine decide_eq_decide.2 ⟨fun h4 ⟨i, hi, h5⟩ => ?_, fun h4 i hi => ?_⟩
      · rw [← h3 i hi, h4 i hi] at h5; cases h5
      · rw [h3 i hi]
        cases h5 : hasD n D (E (i * 2)) (E (i * 2 + 1))
        · exact absurd ⟨i, hi, by rw [h5]; rfl⟩ h4
        · rfl
set_option maxRecDepth 20000 in
set_option maxHeartbeats 2000000 in
theorem rcovers_c (p : Option Addr) (n c : Nat) (D : Nat → Int) (q : Option Addr) (m c2 : Nat) (E : Nat → Int) (hn : n ≤ 1000000) (hm : m ≤ 1000000) (w : World) (hD : DotsAt w p n D) (hE : DotsAt w q m E) :
    Calls Tryz.prog 30 #[.slice p n c, .slice q m c2] w fun e w' => e = .returned (.bool (covR n D m E)) ∧ Below w.heap.size w w' := by
  have hr := fun w' hb => rright_c p n c D hn w' (hD.below (w := w) (w' := w') hb)
  have hr2 := fun w' hb => rright_c q m c2 E hm w' (hE.below (w := w) (w' := w') hb)
  have hh := fun w' hb x y => rhas_c p n c D x y hn w' (hD.below (w := w) (w' := w') hb)
  replace hr := Lib.hid hr
  replace hr2 := Lib.hid hr2
  replace hh := Lib.hid hh
  clear hD
  go_enter Tryz.func30, Tryz.ntmps30
  go_wp2_with fail
  refine (hr.out _ (Below.refl _ _)).mono ?_
  rintro e w1 ⟨rfl, hb⟩
  clear hr
  cases hf : rightD n D
  · have hv : covR n D m E = false := by unfold covR; rw [hf]; rfl
    replace hv := Lib.hid hv
    clear hf
    go_wp2
    go_returns
    exact ⟨by rw [hv.out]; rfl, hb⟩
  · go_wp2_with fail
    refine (hr2.out _ hb).mono ?_
    rintro e w2 ⟨rfl, hb2⟩
    replace hb := hb.trans (hb2.mono hb.size)
    clear hb2 hr2
    cases hk : rightD m E
    · have hv : covR n D m E = false := by unfold covR; rw [hf, hk]; rfl
      replace hv := Lib.hid hv
      clear hf hk
      go_wp2
      go_returns
      exact ⟨by rw [hv.out]; rfl, hb⟩
    · have hv : covR n D m E = decide (∀ i, i < m → hasR n D (E (i * 2)) (E (i * 2 + 1)) = true) := by unfold covR; rw [hf, hk]; rfl
      replace hv := Lib.hid hv
      clear hf hk
      go_wp2
      go_loopw [5] (fun i wr => ∃ k : Nat, k ≤ m ∧ i = .int .i64 k ∧ Below w.heap.size w wr ∧ ∀ i, i < k → hasR n D (E (i * 2)) (E (i * 2 + 1)) = true) (fun i _ => (m - intOf i).toNat)
      case atStart => exact ⟨0, by omega, rfl, hb, fun i hi => absurd hi (by omega)⟩
      case round =>
        clear hb
        obtain ⟨k, hk, hi, hb, hK⟩ := hrel
        subst hi
        by_cases he : k = m
        · subst he
          have hz := Lib.hid (hv.out.trans (decide_eq_true hK))
          clear hK hk
          go_wp2
          go_returns
          exact ⟨by rw [hz.out]; rfl, hb⟩
        · have hk0 : (0 : Int) ≤ (k : Int) := by omega
          have hk1 : (k : Int) < (m : Int) := by omega
          have hk2 : k < m := by omega
          obtain ⟨g, o, rfl, hg, hc⟩ := (hE.below hb) (by omega)
          have c0 : wr.cell? ⟨g, o + k * 2, none⟩ = some (.int .i64 (E (k * 2))) := hc (k * 2) (by omega)
          have c1 : wr.cell? ⟨g, o + k * 2 + 1, none⟩ = some (.int .i64 (E (k * 2 + 1))) := by rw [Nat.add_assoc]; exact hc (k * 2 + 1) (by omega)
          have hh2 := hh.out wr hb (E (k * 2)) (E (k * 2 + 1))
          have hno : hasR n D (E (k * 2)) (E (k * 2 + 1)) = false → covR n D m E = false := fun h => hv.out.trans (decide_eq_false (fun h2 => by rw [h2 k hk2] at h; cases h))
          have hnx : hasR n D (E (k * 2)) (E (k * 2 + 1)) = true → ∀ i, i < k + 1 → hasR n D (E (i * 2)) (E (i * 2 + 1)) = true := fun h i hi => by
            by_cases e : i = k
            · rw [e]; exact h
            · exact hK i (by omega)
          replace hh2 := Lib.hid hh2
          replace hno := Lib.hid hno
          replace hnx := Lib.hid hnx
          clear hK hc hE
          generalize E (k * 2) = x at *
          generalize E (k * 2 + 1) = y at *
          go_wp2_with fail
          refine hh2.out.mono ?_
          rintro e w3 ⟨rfl, hb3⟩
          have hb4 := hb.trans (hb3.mono hb.size)
          cases hq : hasR n D x y
          · have hz := Lib.hid (hno.out hq)
            clear hq hnx hno hh2 c0 c1
            go_wp2
            go_returns
            exact ⟨by rw [hz.out]; rfl, hb4⟩
          · have hz := Lib.hid (hnx.out hq)
            clear hq hnx hno hh2 c0 c1
            go_wp2
            exact ⟨⟨k + 1, by omega, rfl, hb4, hz.out⟩, by simp [intOf]; omega⟩
end Go.Proofs.YtofgkfdfondajaaGreat
