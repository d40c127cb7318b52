/- The walk of the reference's Has. -/
import Derived.Test.YtiimojhdpmkeoaaGreatRr
namespace Go.Proofs.YtiimojhdpmkeoaaGreat
open Go.RowKit
def rh1L (p : Option Addr) (n c : Nat) : List (Value → World → Prop) := [
  Eq1 (.slice p n c),
  Eq1 (.bool false),
  Eq1 (.bool false),
  Eq1 (undef),
  Eq1 (undef),
  Eq1 (.bool false),
  Eq1 (.bool false),
  Eq1 (undef),
  Eq1 (undef),
  Eq1 (undef),
  Eq1 (undef),
  Eq1 (undef),
  Eq1 (undef),
  Eq1 (undef),
  Eq1 (.bool false),
  Eq1 (.bool false)]
theorem rh1S (p : Option Addr) (n c : Nat) : ∀ j x' q q', (rh1L p n c).getD j (fun _ _ => True) x' q → Below q.heap.size q q' → (rh1L p n c).getD j (fun _ _ => True) x' q' := by
  refine sta_all _ ?_
  simp only [rh1L, List.mem_cons, forall_eq_or_imp, List.not_mem_nil, false_implies, implies_true, and_true]
  exact ⟨sta_eq _, sta_eq _, sta_eq _, sta_eq _, sta_eq _, sta_eq _, sta_eq _, sta_eq _, sta_eq _, sta_eq _, sta_eq _, sta_eq _, sta_eq _, sta_eq _, sta_eq _, sta_eq _⟩
def rh2L (p : Option Addr) (n c : Nat) (t s : Int) : List (Value → World → Prop) := [
  Eq1 (.slice p n c),
  Eq1 (.bool true),
  Eq1 (.bool true),
  Eq1 (.agg #[.int .i64 t, .int .i64 s]),
  Eq1 (.bool false),
  Eq1 (.bool false),
  Eq1 (.bool false),
  Eq1 (undef),
  Eq1 (undef),
  Eq1 (undef),
  Eq1 (undef),
  Eq1 (undef),
  Eq1 (undef),
  Eq1 (undef),
  Eq1 (.bool false),
  Eq1 (.bool false)]
theorem rh2S (p : Option Addr) (n c : Nat) (t s : Int) : ∀ j x' q q', (rh2L p n c t s).getD j (fun _ _ => True) x' q → Below q.heap.size q q' → (rh2L p n c t s).getD j (fun _ _ => True) x' q' := by
  refine sta_all _ ?_
  simp only [rh2L, List.mem_cons, forall_eq_or_imp, List.not_mem_nil, false_implies, implies_true, and_true]
  exact ⟨sta_eq _, sta_eq _, sta_eq _, sta_eq _, sta_eq _, sta_eq _, sta_eq _, sta_eq _, sta_eq _, sta_eq _, sta_eq _, sta_eq _, sta_eq _, sta_eq _, sta_eq _, sta_eq _⟩
def rh3L (p : Option Addr) (n c : Nat) (w : World) (t s u : Int) : List (Value → World → Prop) := [
  Eq1 (.slice p n c),
  Eq1 (.bool true),
  Eq1 (.bool true),
  Eq1 (.agg #[.int .i64 t, .int .i64 s]),
  Eq1 (.bool true),
  Eq1 (.bool true),
  Eq1 (.bool true),
  Eq1 (.slice p n c),
  Eq1 (.pointer (some ⟨w.heap.size, 0, none⟩)),
  Eq1 (.int .i64 t),
  Eq1 (.int .i64 u),
  Eq1 (.pointer (some ⟨w.heap.size, 1, none⟩)),
  Eq1 (.int .i64 s),
  Eq1 (.bool (decide (s ≤ u))),
  Eq1 (.bool (decide (s ≤ u))),
  Eq1 (.bool (decide (s ≤ u)))]
theorem rh3S (p : Option Addr) (n c : Nat) (w : World) (t s u : Int) : ∀ j x' q q', (rh3L p n c w t s u).getD j (fun _ _ => True) x' q → Below q.heap.size q q' → (rh3L p n c w t s u).getD j (fun _ _ => True) x' q' := by
  refine sta_all _ ?_
  simp only [rh3L, List.mem_cons, forall_eq_or_imp, List.not_mem_nil, false_implies, implies_true, and_true]
  exact ⟨sta_eq _, sta_eq _, sta_eq _, sta_eq _, sta_eq _, sta_eq _, sta_eq _, sta_eq _, sta_eq _, sta_eq _, sta_eq _, sta_eq _, sta_eq _, sta_eq _, sta_eq _, sta_eq _⟩
def hasR (n : Nat) (D : Nat → Int) (t s : Int) : Bool := rightD n D && (okD t s && decide (s ≤ upD n D t))
theorem hasR_eq (n : Nat) (D : Nat → Int) (t s : Int) : hasR n D t s = hasV n D t s := by
  unfold hasR hasV
  cases h : rightD n D
  · rfl
  · cases h2 : okD t s
    · rfl
    · have hR : RightD n D := of_decide_eq_true h
      have := of_decide_eq_true h2
      rw [hasD_val hR (by omega), upD_val hR]
set_option maxRecDepth 20000 in
set_option maxHeartbeats 2000000 in
theorem rhas_c (p : Option Addr) (n c : Nat) (D : Nat → Int) (t s : Int) (hn : n ≤ 1000000) (w : World) (hD : DotsAt w p n D) : Calls Tryz.prog 29 #[.slice p n c, .agg #[.int .i64 t, .int .i64 s]] w fun e w' => e = .returned (.bool (hasR n D t s)) ∧ Below w.heap.size w w' := by
  have hr := fun w' hb => rright_c p n c D hn w' (hD.below (w := w) (w' := w') hb)
  have hd := rdot_c t s
  have hu := fun w' hb => up_c p n c D t hn w' (hD.below (w := w) (w' := w') hb)
  have hv : hasR n D t s = (rightD n D && (okD t s && decide (s ≤ upD n D t))) := rfl
  generalize upD n D t = u at *
  generalize hasR n D t s = z at *
  replace hv := Lib.hid hv
  replace hr := Lib.hid hr
  replace hu := Lib.hid hu
  replace hd := Lib.hid hd
  clear hD
  go_enter Tryz.func29, Tryz.ntmps29
  go_wp2
  refine at_world (fun W0 hW => ?_)
  have hX : Blk W0 w.heap.size 38 #[.int .i64 t, .int .i64 s] := by rw [hW]; exact Blk.new _ _ _
  have hb : Below w.heap.size w W0 := by rw [hW]; exact (Below.refl _ _).alloc (Nat.le_refl _) _
  clear hW
  have hr1 := fun w' (hb2 : Below W0.heap.size W0 w') => hr.out w' (hb.trans (hb2.mono hb.size))
  replace hr := Lib.hid hr1
  clear hr1
  have hu1 := fun w' (hb2 : Below W0.heap.size W0 w') => hu.out w' (hb.trans (hb2.mono hb.size))
  replace hu := Lib.hid hu1
  clear hu1
  have hb0 := hb
  clear hb
  have hsz := hb0.size
  cases hR : rightD n D
  · rw [hR] at hr hv
    have hz := hv.out
    simp only [Bool.false_and] at hz
    subst hz
    clear hv hR hu
    refine wp_region_grow2 16 (fun k => (Nat.ble 4 k && Nat.ble k 19)) _ [] (fun j x' q => (rh1L p n c).getD j (fun _ _ => True) x' q) (fun _ => false) (fun f => #[.slice p n c, .agg #[.int .i64 t, .int .i64 s], undef, .pointer (some ⟨w.heap.size, 0, none⟩), f 4, f 5, f 6, f 7, f 8, f 9, f 10, f 11, f 12, f 13, f 14, f 15, f 16, f 17, f 18, f 19]) (fun f => rfl) (by kernel_rfl) (by kernel_rfl) (by kernel_rfl) (by kernel_rfl) (by kernel_rfl) (rh1S _ _ _) (fun _ _ _ h => by cases h) ?_ ?_
    · refine steps2_cons ?_ ?_
      · intro f w1 hb hd Q hK
        clear hd
        have hK := Lib.hid hK
        go_wp2
        exact hK.out _ _ rfl (Below.refl _ _) (fun h => by cases h)
      refine steps2_cons ?_ ?_
      · intro f w1 hb hd Q hK
        have e5 : f 5 = .slice p n c := hd.1 rfl
        clear hd
        simp only [e5] at hK
        have hK := Lib.hid hK
        go_wp2_with fail
        refine (hr.out _ hb).mono ?_
        rintro e w2 ⟨rfl, hb2⟩
        go_wp2
        exact hK.out _ _ rfl hb2 (fun h => by cases h)
      refine steps2_cons ?_ ?_
      · intro f w1 hb hd Q hK
        have e6 : f 6 = .bool false := hd.1 rfl
        clear hd
        simp only [e6] at hK
        have hK := Lib.hid hK
        go_wp2
        exact hK.out _ _ rfl (Below.refl _ _) (fun h => by cases h)
      refine steps2_cons ?_ ?_
      · intro f w1 hb hd Q hK
        have e7 : f 7 = .bool false := hd.1 rfl
        clear hd
        simp only [e7] at hK
        have hK := Lib.hid hK
        go_wp2
        exact hK.out _ _ rfl (Below.refl _ _) (fun h => by cases h)
      refine steps2_cons ?_ ?_
      · intro f w1 hb hd Q hK
        have e8 : f 8 = undef := hd.1 rfl
        have e7 : f 7 = .bool false := hd.2.1 rfl
        clear hd
        simp only [e8, e7] at hK
        have hK := Lib.hid hK
        go_wp2
        exact hK.out _ _ rfl (Below.refl _ _) (fun h => by cases h)
      refine steps2_cons ?_ ?_
      · intro f w1 hb hd Q hK
        have e7 : f 7 = .bool false := hd.1 rfl
        have e9 : f 9 = undef := hd.2.1 rfl
        clear hd
        simp only [e7, e9] at hK
        have hK := Lib.hid hK
        go_wp2
        exact hK.out _ _ rfl (Below.refl _ _) (fun h => by cases h)
      refine steps2_cons ?_ ?_
      · intro f w1 hb hd Q hK
        have e10 : f 10 = .bool false := hd.1 rfl
        clear hd
        simp only [e10] at hK
        have hK := Lib.hid hK
        go_wp2
        exact hK.out _ _ rfl (Below.refl _ _) (fun h => by cases h)
      refine steps2_cons ?_ ?_
      · intro f w1 hb hd Q hK
        have e11 : f 11 = .bool false := hd.1 rfl
        clear hd
        simp only [e11] at hK
        have hK := Lib.hid hK
        go_wp2
        exact hK.out _ _ rfl (Below.refl _ _) (fun h => by cases h)
      refine steps2_cons ?_ ?_
      · intro f w1 hb hd Q hK
        have e11 : f 11 = .bool false := hd.1 rfl
        clear hd
        simp only [e11] at hK
        have hK := Lib.hid hK
        go_wp2
        exact hK.out _ _ rfl (Below.refl _ _) (fun h => by cases h)
      refine steps2_cons ?_ ?_
      · intro f w1 hb hd Q hK
        have e13 : f 13 = undef := hd.1 rfl
        have e11 : f 11 = .bool false := hd.2.1 rfl
        clear hd
        simp only [e13, e11] at hK
        have hK := Lib.hid hK
        go_wp2
        exact hK.out _ _ rfl (Below.refl _ _) (fun h => by cases h)
      refine steps2_cons ?_ ?_
      · intro f w1 hb hd Q hK
        have e12 : f 12 = undef := hd.1 rfl
        have e14 : f 14 = undef := hd.2.1 rfl
        have e11 : f 11 = .bool false := hd.2.2.1 rfl
        clear hd
        simp only [e12, e14, e11] at hK
        have hK := Lib.hid hK
        go_wp2
        exact hK.out _ _ rfl (Below.refl _ _) (fun h => by cases h)
      refine steps2_cons ?_ ?_
      · intro f w1 hb hd Q hK
        have e11 : f 11 = .bool false := hd.1 rfl
        clear hd
        simp only [e11] at hK
        have hK := Lib.hid hK
        go_wp2
        exact hK.out _ _ rfl (Below.refl _ _) (fun h => by cases h)
      refine steps2_cons ?_ ?_
      · intro f w1 hb hd Q hK
        have e16 : f 16 = undef := hd.1 rfl
        have e11 : f 11 = .bool false := hd.2.1 rfl
        clear hd
        simp only [e16, e11] at hK
        have hK := Lib.hid hK
        go_wp2
        exact hK.out _ _ rfl (Below.refl _ _) (fun h => by cases h)
      refine steps2_cons ?_ ?_
      · intro f w1 hb hd Q hK
        have e15 : f 15 = undef := hd.1 rfl
        have e17 : f 17 = undef := hd.2.1 rfl
        have e11 : f 11 = .bool false := hd.2.2.1 rfl
        clear hd
        simp only [e15, e17, e11] at hK
        have hK := Lib.hid hK
        go_wp2
        exact hK.out _ _ rfl (Below.refl _ _) (fun h => by cases h)
      refine steps2_cons ?_ ?_
      · intro f w1 hb hd Q hK
        have e11 : f 11 = .bool false := hd.1 rfl
        have e18 : f 18 = undef := hd.2.1 rfl
        clear hd
        simp only [e11, e18] at hK
        have hK := Lib.hid hK
        go_wp2
        exact hK.out _ _ rfl (Below.refl _ _) (fun h => by cases h)
      refine steps2_cons ?_ ?_
      · intro f w1 hb hd Q hK
        have e19 : f 19 = .bool false := hd.1 rfl
        clear hd
        simp only [e19] at hK
        have hK := Lib.hid hK
        go_wp2
        exact hK.out _ _ rfl (Below.refl _ _) (fun h => by cases h)
      trivial
    · intro f w1 hb2 hf hne
      refine wpList_nil ?_
      have d4 : f 4 = .bool false := hf 15 _ _ (by decide) rfl rfl
      clear hf hne
      simp only [d4]
      clear d4
      have hb9 := hb0.trans (hb2.mono hsz)
      go_wp2
      go_returns
      exact ⟨rfl, hb9⟩
  · rw [hR] at hr hv
    clear hR
    cases hK : okD t s
    · rw [hK] at hd hv
      have hz := hv.out
      simp only [Bool.true_and, Bool.false_and] at hz
      subst hz
      clear hv hK hu
      refine wp_region_grow2 16 (fun k => (Nat.ble 4 k && Nat.ble k 19)) _ [] (fun j x' q => (rh2L p n c t s).getD j (fun _ _ => True) x' q) (fun _ => false) (fun f => #[.slice p n c, .agg #[.int .i64 t, .int .i64 s], undef, .pointer (some ⟨w.heap.size, 0, none⟩), f 4, f 5, f 6, f 7, f 8, f 9, f 10, f 11, f 12, f 13, f 14, f 15, f 16, f 17, f 18, f 19]) (fun f => rfl) (by kernel_rfl) (by kernel_rfl) (by kernel_rfl) (by kernel_rfl) (by kernel_rfl) (rh2S _ _ _ _ _) (fun _ _ _ h => by cases h) ?_ ?_
      · refine steps2_cons ?_ ?_
        · intro f w1 hb hd Q hK
          clear hd
          have hK := Lib.hid hK
          go_wp2
          exact hK.out _ _ rfl (Below.refl _ _) (fun h => by cases h)
        refine steps2_cons ?_ ?_
        · intro f w1 hb hd Q hK
          have e5 : f 5 = .slice p n c := hd.1 rfl
          clear hd
          simp only [e5] at hK
          have hK := Lib.hid hK
          go_wp2_with fail
          refine (hr.out _ hb).mono ?_
          rintro e w2 ⟨rfl, hb2⟩
          go_wp2
          exact hK.out _ _ rfl hb2 (fun h => by cases h)
        refine steps2_cons ?_ ?_
        · intro f w1 hb hd Q hK
          have e6 : f 6 = .bool true := hd.1 rfl
          clear hd
          simp only [e6] at hK
          have hK := Lib.hid hK
          go_wp2
          exact hK.out _ _ rfl (Below.refl _ _) (fun h => by cases h)
        refine steps2_cons ?_ ?_
        · intro f w1 hb hd Q hK
          have e7 : f 7 = .bool true := hd.1 rfl
          clear hd
          simp only [e7] at hK
          have hK := Lib.hid hK
          obtain ⟨c0, c1⟩ := blk2 (hX.below hb)
          go_wp2
          exact hK.out _ _ rfl (Below.refl _ _) (fun h => by cases h)
        refine steps2_cons ?_ ?_
        · intro f w1 hb hd Q hK
          have e8 : f 8 = .agg #[.int .i64 t, .int .i64 s] := hd.1 rfl
          have e7 : f 7 = .bool true := hd.2.1 rfl
          clear hd
          simp only [e8, e7] at hK
          have hK := Lib.hid hK
          go_wp2_with fail
          refine (hd.out _).mono ?_
          rintro e w2 ⟨rfl, hb2⟩
          go_wp2
          exact hK.out _ _ rfl hb2 (fun h => by cases h)
        refine steps2_cons ?_ ?_
        · intro f w1 hb hd Q hK
          have e7 : f 7 = .bool true := hd.1 rfl
          have e9 : f 9 = .bool false := hd.2.1 rfl
          clear hd
          simp only [e7, e9] at hK
          have hK := Lib.hid hK
          go_wp2
          exact hK.out _ _ rfl (Below.refl _ _) (fun h => by cases h)
        refine steps2_cons ?_ ?_
        · intro f w1 hb hd Q hK
          have e10 : f 10 = .bool false := hd.1 rfl
          clear hd
          simp only [e10] at hK
          have hK := Lib.hid hK
          go_wp2
          exact hK.out _ _ rfl (Below.refl _ _) (fun h => by cases h)
        refine steps2_cons ?_ ?_
        · intro f w1 hb hd Q hK
          have e11 : f 11 = .bool false := hd.1 rfl
          clear hd
          simp only [e11] at hK
          have hK := Lib.hid hK
          go_wp2
          exact hK.out _ _ rfl (Below.refl _ _) (fun h => by cases h)
        refine steps2_cons ?_ ?_
        · intro f w1 hb hd Q hK
          have e11 : f 11 = .bool false := hd.1 rfl
          clear hd
          simp only [e11] at hK
          have hK := Lib.hid hK
          go_wp2
          exact hK.out _ _ rfl (Below.refl _ _) (fun h => by cases h)
        refine steps2_cons ?_ ?_
        · intro f w1 hb hd Q hK
          have e13 : f 13 = undef := hd.1 rfl
          have e11 : f 11 = .bool false := hd.2.1 rfl
          clear hd
          simp only [e13, e11] at hK
          have hK := Lib.hid hK
          go_wp2
          exact hK.out _ _ rfl (Below.refl _ _) (fun h => by cases h)
        refine steps2_cons ?_ ?_
        · intro f w1 hb hd Q hK
          have e12 : f 12 = undef := hd.1 rfl
          have e14 : f 14 = undef := hd.2.1 rfl
          have e11 : f 11 = .bool false := hd.2.2.1 rfl
          clear hd
          simp only [e12, e14, e11] at hK
          have hK := Lib.hid hK
          go_wp2
          exact hK.out _ _ rfl (Below.refl _ _) (fun h => by cases h)
        refine steps2_cons ?_ ?_
        · intro f w1 hb hd Q hK
          have e11 : f 11 = .bool false := hd.1 rfl
          clear hd
          simp only [e11] at hK
          have hK := Lib.hid hK
          go_wp2
          exact hK.out _ _ rfl (Below.refl _ _) (fun h => by cases h)
        refine steps2_cons ?_ ?_
        · intro f w1 hb hd Q hK
          have e16 : f 16 = undef := hd.1 rfl
          have e11 : f 11 = .bool false := hd.2.1 rfl
          clear hd
          simp only [e16, e11] at hK
          have hK := Lib.hid hK
          go_wp2
          exact hK.out _ _ rfl (Below.refl _ _) (fun h => by cases h)
        refine steps2_cons ?_ ?_
        · intro f w1 hb hd Q hK
          have e15 : f 15 = undef := hd.1 rfl
          have e17 : f 17 = undef := hd.2.1 rfl
          have e11 : f 11 = .bool false := hd.2.2.1 rfl
          clear hd
          simp only [e15, e17, e11] at hK
          have hK := Lib.hid hK
          go_wp2
          exact hK.out _ _ rfl (Below.refl _ _) (fun h => by cases h)
        refine steps2_cons ?_ ?_
        · intro f w1 hb hd Q hK
          have e11 : f 11 = .bool false := hd.1 rfl
          have e18 : f 18 = undef := hd.2.1 rfl
          clear hd
          simp only [e11, e18] at hK
          have hK := Lib.hid hK
          go_wp2
          exact hK.out _ _ rfl (Below.refl _ _) (fun h => by cases h)
        refine steps2_cons ?_ ?_
        · intro f w1 hb hd Q hK
          have e19 : f 19 = .bool false := hd.1 rfl
          clear hd
          simp only [e19] at hK
          have hK := Lib.hid hK
          go_wp2
          exact hK.out _ _ rfl (Below.refl _ _) (fun h => by cases h)
        trivial
      · intro f w1 hb2 hf hne
        refine wpList_nil ?_
        have d4 : f 4 = .bool false := hf 15 _ _ (by decide) rfl rfl
        clear hf hne
        simp only [d4]
        clear d4
        have hb9 := hb0.trans (hb2.mono hsz)
        go_wp2
        go_returns
        exact ⟨rfl, hb9⟩
    · rw [hK] at hd hv
      have hz := hv.out
      simp only [Bool.true_and] at hz
      subst hz
      clear hv hK
      refine wp_region_grow2 16 (fun k => (Nat.ble 4 k && Nat.ble k 19)) _ [] (fun j x' q => (rh3L p n c w t s u).getD j (fun _ _ => True) x' q) (fun _ => false) (fun f => #[.slice p n c, .agg #[.int .i64 t, .int .i64 s], undef, .pointer (some ⟨w.heap.size, 0, none⟩), f 4, f 5, f 6, f 7, f 8, f 9, f 10, f 11, f 12, f 13, f 14, f 15, f 16, f 17, f 18, f 19]) (fun f => rfl) (by kernel_rfl) (by kernel_rfl) (by kernel_rfl) (by kernel_rfl) (by kernel_rfl) (rh3S _ _ _ _ _ _ _) (fun _ _ _ h => by cases h) ?_ ?_
      · refine steps2_cons ?_ ?_
        · intro f w1 hb hd Q hK
          clear hd
          have hK := Lib.hid hK
          go_wp2
          exact hK.out _ _ rfl (Below.refl _ _) (fun h => by cases h)
        refine steps2_cons ?_ ?_
        · intro f w1 hb hd Q hK
          have e5 : f 5 = .slice p n c := hd.1 rfl
          clear hd
          simp only [e5] at hK
          have hK := Lib.hid hK
          go_wp2_with fail
          refine (hr.out _ hb).mono ?_
          rintro e w2 ⟨rfl, hb2⟩
          go_wp2
          exact hK.out _ _ rfl hb2 (fun h => by cases h)
        refine steps2_cons ?_ ?_
        · intro f w1 hb hd Q hK
          have e6 : f 6 = .bool true := hd.1 rfl
          clear hd
          simp only [e6] at hK
          have hK := Lib.hid hK
          go_wp2
          exact hK.out _ _ rfl (Below.refl _ _) (fun h => by cases h)
        refine steps2_cons ?_ ?_
        · intro f w1 hb hd Q hK
          have e7 : f 7 = .bool true := hd.1 rfl
          clear hd
          simp only [e7] at hK
          have hK := Lib.hid hK
          obtain ⟨c0, c1⟩ := blk2 (hX.below hb)
          go_wp2
          exact hK.out _ _ rfl (Below.refl _ _) (fun h => by cases h)
        refine steps2_cons ?_ ?_
        · intro f w1 hb hd Q hK
          have e8 : f 8 = .agg #[.int .i64 t, .int .i64 s] := hd.1 rfl
          have e7 : f 7 = .bool true := hd.2.1 rfl
          clear hd
          simp only [e8, e7] at hK
          have hK := Lib.hid hK
          go_wp2_with fail
          refine (hd.out _).mono ?_
          rintro e w2 ⟨rfl, hb2⟩
          go_wp2
          exact hK.out _ _ rfl hb2 (fun h => by cases h)
        refine steps2_cons ?_ ?_
        · intro f w1 hb hd Q hK
          have e7 : f 7 = .bool true := hd.1 rfl
          have e9 : f 9 = .bool true := hd.2.1 rfl
          clear hd
          simp only [e7, e9] at hK
          have hK := Lib.hid hK
          go_wp2
          exact hK.out _ _ rfl (Below.refl _ _) (fun h => by cases h)
        refine steps2_cons ?_ ?_
        · intro f w1 hb hd Q hK
          have e10 : f 10 = .bool true := hd.1 rfl
          clear hd
          simp only [e10] at hK
          have hK := Lib.hid hK
          go_wp2
          exact hK.out _ _ rfl (Below.refl _ _) (fun h => by cases h)
        refine steps2_cons ?_ ?_
        · intro f w1 hb hd Q hK
          have e11 : f 11 = .bool true := hd.1 rfl
          clear hd
          simp only [e11] at hK
          have hK := Lib.hid hK
          go_wp2
          exact hK.out _ _ rfl (Below.refl _ _) (fun h => by cases h)
        refine steps2_cons ?_ ?_
        · intro f w1 hb hd Q hK
          have e11 : f 11 = .bool true := hd.1 rfl
          clear hd
          simp only [e11] at hK
          have hK := Lib.hid hK
          go_wp2
          exact hK.out _ _ rfl (Below.refl _ _) (fun h => by cases h)
        refine steps2_cons ?_ ?_
        · intro f w1 hb hd Q hK
          have e13 : f 13 = .pointer (some ⟨w.heap.size, 0, none⟩) := hd.1 rfl
          have e11 : f 11 = .bool true := hd.2.1 rfl
          clear hd
          simp only [e13, e11] at hK
          have hK := Lib.hid hK
          have c0 := (hX.below hb).cell 0
          simp only [List.getElem?_toArray, List.getElem?_cons_zero] at c0
          go_wp2
          exact hK.out _ _ rfl (Below.refl _ _) (fun h => by cases h)
        refine steps2_cons ?_ ?_
        · intro f w1 hb hd Q hK
          have e12 : f 12 = .slice p n c := hd.1 rfl
          have e14 : f 14 = .int .i64 t := hd.2.1 rfl
          have e11 : f 11 = .bool true := hd.2.2.1 rfl
          clear hd
          simp only [e12, e14, e11] at hK
          have hK := Lib.hid hK
          go_wp2_with fail
          refine (hu.out _ hb).mono ?_
          rintro e w2 ⟨rfl, hb2⟩
          go_wp2
          exact hK.out _ _ rfl hb2 (fun h => by cases h)
        refine steps2_cons ?_ ?_
        · intro f w1 hb hd Q hK
          have e11 : f 11 = .bool true := hd.1 rfl
          clear hd
          simp only [e11] at hK
          have hK := Lib.hid hK
          go_wp2
          exact hK.out _ _ rfl (Below.refl _ _) (fun h => by cases h)
        refine steps2_cons ?_ ?_
        · intro f w1 hb hd Q hK
          have e16 : f 16 = .pointer (some ⟨w.heap.size, 1, none⟩) := hd.1 rfl
          have e11 : f 11 = .bool true := hd.2.1 rfl
          clear hd
          simp only [e16, e11] at hK
          have hK := Lib.hid hK
          have c0 := (hX.below hb).cell 1
          simp only [List.getElem?_toArray, List.getElem?_cons_zero, List.getElem?_cons_succ] at c0
          go_wp2
          exact hK.out _ _ rfl (Below.refl _ _) (fun h => by cases h)
        refine steps2_cons ?_ ?_
        · intro f w1 hb hd Q hK
          have e15 : f 15 = .int .i64 u := hd.1 rfl
          have e17 : f 17 = .int .i64 s := hd.2.1 rfl
          have e11 : f 11 = .bool true := hd.2.2.1 rfl
          clear hd
          simp only [e15, e17, e11] at hK
          have hK := Lib.hid hK
          go_wp2
          exact hK.out _ _ rfl (Below.refl _ _) (fun h => by cases h)
        refine steps2_cons ?_ ?_
        · intro f w1 hb hd Q hK
          have e11 : f 11 = .bool true := hd.1 rfl
          have e18 : f 18 = .bool (decide (s ≤ u)) := hd.2.1 rfl
          clear hd
          simp only [e11, e18] at hK
          have hK := Lib.hid hK
          go_wp2
          exact hK.out _ _ rfl (Below.refl _ _) (fun h => by cases h)
        refine steps2_cons ?_ ?_
        · intro f w1 hb hd Q hK
          have e19 : f 19 = .bool (decide (s ≤ u)) := hd.1 rfl
          clear hd
          simp only [e19] at hK
          have hK := Lib.hid hK
          go_wp2
          exact hK.out _ _ rfl (Below.refl _ _) (fun h => by cases h)
        trivial
      · intro f w1 hb2 hf hne
        refine wpList_nil ?_
        have d4 : f 4 = .bool (decide (s ≤ u)) := hf 15 _ _ (by decide) rfl rfl
        clear hf hne
        simp only [d4]
        clear d4
        have hb9 := hb0.trans (hb2.mono hsz)
        go_wp2
        go_returns
        exact ⟨rfl, hb9⟩
end Go.Proofs.YtiimojhdpmkeoaaGreat
