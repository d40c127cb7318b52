/- The walk of the reference's Right. -/
import Derived.Test.YtiimojhdpmkeoaaGreatRf
namespace Go.Proofs.YtiimojhdpmkeoaaGreat
open Go.RowKit
def rr1L (x y : Int) (g o n c m : Nat) : List (Value → World → Prop) := [
  Eq1 (.slice (some ⟨g, o, none⟩) n c),
  Eq1 (.int .i64 m),
  Eq1 (.pointer (some ⟨g, o + m * 2, none⟩)),
  Eq1 (.agg #[.int .i64 x, .int .i64 y]),
  Eq1 (.bool false),
  Eq1 (.bool true),
  Eq1 (.bool true),
  Eq1 (undef),
  Eq1 (undef),
  Eq1 (undef),
  Eq1 (undef),
  Eq1 (undef),
  Eq1 (undef),
  Eq1 (undef),
  Eq1 (undef),
  Eq1 (undef),
  Eq1 (undef),
  Eq1 (undef),
  Eq1 (undef),
  Eq1 (undef),
  Eq1 (undef),
  Eq1 (undef),
  Eq1 (undef),
  Eq1 (.bool true)]
theorem rr1S (x y : Int) (g o n c m : Nat) : ∀ j x' q q', (rr1L x y g o n c m).getD j (fun _ _ => True) x' q → Below q.heap.size q q' → (rr1L x y g o n c m).getD j (fun _ _ => True) x' q' := by
  refine sta_all _ ?_
  simp only [rr1L, List.mem_cons, forall_eq_or_imp, List.not_mem_nil, false_implies, implies_true, and_true]
  exact ⟨sta_eq _, sta_eq _, sta_eq _, sta_eq _, sta_eq _, sta_eq _, sta_eq _, sta_eq _, sta_eq _, sta_eq _, sta_eq _, sta_eq _, sta_eq _, sta_eq _, sta_eq _, sta_eq _, sta_eq _, sta_eq _, sta_eq _, sta_eq _, sta_eq _, sta_eq _, sta_eq _, sta_eq _⟩
def rr2L (x y : Int) (g o n c m : Nat) : List (Value → World → Prop) := [
  Eq1 (.slice (some ⟨g, o, none⟩) n c),
  Eq1 (.int .i64 m),
  Eq1 (.pointer (some ⟨g, o + m * 2, none⟩)),
  Eq1 (.agg #[.int .i64 x, .int .i64 y]),
  Eq1 (.bool true),
  Eq1 (.bool false),
  Eq1 (.bool false),
  Eq1 (.int .i64 m),
  Eq1 (.bool false),
  Eq1 (.bool false),
  Eq1 (undef),
  Eq1 (undef),
  Eq1 (undef),
  Eq1 (undef),
  Eq1 (undef),
  Eq1 (undef),
  Eq1 (undef),
  Eq1 (undef),
  Eq1 (undef),
  Eq1 (undef),
  Eq1 (undef),
  Eq1 (undef),
  Eq1 (.bool false),
  Eq1 (.bool false)]
theorem rr2S (x y : Int) (g o n c m : Nat) : ∀ j x' q q', (rr2L x y g o n c m).getD j (fun _ _ => True) x' q → Below q.heap.size q q' → (rr2L x y g o n c m).getD j (fun _ _ => True) x' q' := by
  refine sta_all _ ?_
  simp only [rr2L, List.mem_cons, forall_eq_or_imp, List.not_mem_nil, false_implies, implies_true, and_true]
  exact ⟨sta_eq _, sta_eq _, sta_eq _, sta_eq _, sta_eq _, sta_eq _, sta_eq _, sta_eq _, sta_eq _, sta_eq _, sta_eq _, sta_eq _, sta_eq _, sta_eq _, sta_eq _, sta_eq _, sta_eq _, sta_eq _, sta_eq _, sta_eq _, sta_eq _, sta_eq _, sta_eq _, sta_eq _⟩
def rr3L (x y z : Int) (g o n c m k : Nat) : List (Value → World → Prop) := [
  Eq1 (.slice (some ⟨g, o, none⟩) n c),
  Eq1 (.int .i64 m),
  Eq1 (.pointer (some ⟨g, o + m * 2, none⟩)),
  Eq1 (.agg #[.int .i64 x, .int .i64 y]),
  Eq1 (.bool true),
  Eq1 (.bool false),
  Eq1 (.bool false),
  Eq1 (.int .i64 m),
  Eq1 (.bool true),
  Eq1 (.bool true),
  Eq1 (.slice (some ⟨g, o, none⟩) n c),
  Eq1 (.int .i64 m),
  Eq1 (.int .i64 k),
  Eq1 (.pointer (some ⟨g, o + k * 2, none⟩)),
  Eq1 (.pointer (some ⟨g, o + k * 2, none⟩)),
  Eq1 (.int .i64 z),
  Eq1 (.slice (some ⟨g, o, none⟩) n c),
  Eq1 (.int .i64 m),
  Eq1 (.pointer (some ⟨g, o + m * 2, none⟩)),
  Eq1 (.pointer (some ⟨g, o + m * 2, none⟩)),
  Eq1 (.int .i64 x),
  Eq1 (.bool false),
  Eq1 (.bool false),
  Eq1 (.bool false)]
theorem rr3S (x y z : Int) (g o n c m k : Nat) : ∀ j x' q q', (rr3L x y z g o n c m k).getD j (fun _ _ => True) x' q → Below q.heap.size q q' → (rr3L x y z g o n c m k).getD j (fun _ _ => True) x' q' := by
  refine sta_all _ ?_
  simp only [rr3L, List.mem_cons, forall_eq_or_imp, List.not_mem_nil, false_implies, implies_true, and_true]
  exact ⟨sta_eq _, sta_eq _, sta_eq _, sta_eq _, sta_eq _, sta_eq _, sta_eq _, sta_eq _, sta_eq _, sta_eq _, sta_eq _, sta_eq _, sta_eq _, sta_eq _, sta_eq _, sta_eq _, sta_eq _, sta_eq _, sta_eq _, sta_eq _, sta_eq _, sta_eq _, sta_eq _, sta_eq _⟩
def rr4L (x y z : Int) (g o n c m k : Nat) : List (Value → World → Prop) := [
  Eq1 (.slice (some ⟨g, o, none⟩) n c),
  Eq1 (.int .i64 m),
  Eq1 (.pointer (some ⟨g, o + m * 2, none⟩)),
  Eq1 (.agg #[.int .i64 x, .int .i64 y]),
  Eq1 (.bool true),
  Eq1 (.bool false),
  Eq1 (.bool false),
  Eq1 (.int .i64 m),
  Eq1 (.bool true),
  Eq1 (.bool true),
  Eq1 (.slice (some ⟨g, o, none⟩) n c),
  Eq1 (.int .i64 m),
  Eq1 (.int .i64 k),
  Eq1 (.pointer (some ⟨g, o + k * 2, none⟩)),
  Eq1 (.pointer (some ⟨g, o + k * 2, none⟩)),
  Eq1 (.int .i64 z),
  Eq1 (.slice (some ⟨g, o, none⟩) n c),
  Eq1 (.int .i64 m),
  Eq1 (.pointer (some ⟨g, o + m * 2, none⟩)),
  Eq1 (.pointer (some ⟨g, o + m * 2, none⟩)),
  Eq1 (.int .i64 x),
  Eq1 (.bool true),
  Eq1 (.bool true),
  Eq1 (.bool true)]
theorem rr4S (x y z : Int) (g o n c m k : Nat) : ∀ j x' q q', (rr4L x y z g o n c m k).getD j (fun _ _ => True) x' q → Below q.heap.size q q' → (rr4L x y z g o n c m k).getD j (fun _ _ => True) x' q' := by
  refine sta_all _ ?_
  simp only [rr4L, List.mem_cons, forall_eq_or_imp, List.not_mem_nil, false_implies, implies_true, and_true]
  exact ⟨sta_eq _, sta_eq _, sta_eq _, sta_eq _, sta_eq _, sta_eq _, sta_eq _, sta_eq _, sta_eq _, sta_eq _, sta_eq _, sta_eq _, sta_eq _, sta_eq _, sta_eq _, sta_eq _, sta_eq _, sta_eq _, sta_eq _, sta_eq _, sta_eq _, sta_eq _, sta_eq _, sta_eq _⟩
set_option maxRecDepth 20000 in
set_option maxHeartbeats 4000000 in
theorem rright_c (p : Option Addr) (n c : Nat) (D : Nat → Int) (hn : n ≤ 1000000) (w : World) (hD : DotsAt w p n D) : Calls Tryz.prog 42 #[.slice p n c] w fun e w' => e = .returned (.bool (rightD n D)) ∧ Below w.heap.size w w' := by
  go_enter Tryz.func42, Tryz.ntmps42
  go_wp2
  go_loopw [3] (fun i wr => ∃ m : Nat, m ≤ n ∧ i = .int .i64 m ∧ RightD m D ∧ Below w.heap.size w wr) (fun i _ => (n - intOf i).toNat)
  case atStart => exact ⟨0, by omega, rfl, fun i hi => by omega, Below.refl _ _⟩
  case round =>
    obtain ⟨m, hm, hi, hR, hb⟩ := hrel
    subst hi
    by_cases he : m = n
    · subst he
      have hf : rightD m D = true := decide_eq_true hR
      replace hf := Lib.hid hf
      clear hR hm
      go_wp2
      go_returns
      exact ⟨by rw [hf.out]; rfl, hb⟩
    · have hm0 : (0 : Int) ≤ (m : Int) := by omega
      have hm1 : (m : Int) < (n : Int) := by omega
      have hm2 : m < n := by omega
      clear hm he
      obtain ⟨g, o, rfl, hg, hc⟩ := (hD.below hb) (by omega)
      have cx : wr.cell? ⟨g, o + m * 2, none⟩ = some (.int .i64 (D (m * 2))) := hc (m * 2) (by omega)
      have cy : wr.cell? ⟨g, o + m * 2 + 1, none⟩ = some (.int .i64 (D (m * 2 + 1))) := by rw [Nat.add_assoc]; exact hc (m * 2 + 1) (by omega)
      have hpre : 0 < m → wr.cell? ⟨g, o + (m - 1) * 2, none⟩ = some (.int .i64 (D ((m - 1) * 2))) := fun h => hc ((m - 1) * 2) (by omega)
      clear hc hD
      have hnext : okD (D (m * 2)) (D (m * 2 + 1)) = true → (0 < m → D ((m - 1) * 2) < D (m * 2)) → RightD (m + 1) D := fun h1 h2 i hi => by
        rcases Nat.lt_or_ge i m with h | h
        · exact hR i h
        · obtain rfl : i = m := by omega
          exact ⟨h1, h2⟩
      have hstop : ¬ (okD (D (m * 2)) (D (m * 2 + 1)) = true ∧ (0 < m → D ((m - 1) * 2) < D (m * 2))) → rightD n D = false := fun h => decide_eq_false fun hr => h (hr m hm2)
      have hrt := rdot_c (D (m * 2)) (D (m * 2 + 1))
      replace hnext := Lib.hid hnext
      replace hstop := Lib.hid hstop
      replace hpre := Lib.hid hpre
      clear hR
      generalize D (m * 2) = x at *
      generalize D (m * 2 + 1) = y at *
      cases hok : okD x y
      · have hf := hstop.out (fun h => by rw [hok] at h; cases h.1)
        rw [hok] at hrt
        replace hf := Lib.hid hf
        replace hrt := Lib.hid hrt
        clear hpre hnext hstop hok
        go_wp2
        refine wp_region_grow2 24 (fun k => (Nat.ble 10 k && Nat.ble k 33)) _ [] (fun j x' q => (rr1L x y g o n c m).getD j (fun _ _ => True) x' q) (fun _ => false) (fun f => #[.slice (some ⟨g, o, none⟩) n c, undef, u2, .int .i64 m, .int .i64 m, .slice (some ⟨g, o, none⟩) n c, .int .i64 n, .bool true, u8, u9, f 10, f 11, f 12, f 13, f 14, f 15, f 16, f 17, f 18, f 19, f 20, f 21, f 22, f 23, f 24, f 25, f 26, f 27, f 28, f 29, f 30, f 31, f 32, f 33]) (fun f => rfl) (by kernel_rfl) (by kernel_rfl) (by kernel_rfl) (by kernel_rfl) (by kernel_rfl) (rr1S _ _ _ _ _ _ _) (fun _ _ _ h => by cases h) ?_ ?_
        · refine steps2_cons ?_ ?_
          · intro f w1 hb hd Q hK
            clear hd
            have hK := Lib.hid hK
            go_wp2
            exact hK.out _ _ rfl (Below.refl _ _) (fun h => by cases h)
          refine steps2_cons ?_ ?_
          · intro f w1 hb hd Q hK
            clear hd
            have hK := Lib.hid hK
            go_wp2
            exact hK.out _ _ rfl (Below.refl _ _) (fun h => by cases h)
          refine steps2_cons ?_ ?_
          · intro f w1 hb hd Q hK
            have e10 : f 10 = .slice (some ⟨g, o, none⟩) n c := hd.1 rfl
            have e11 : f 11 = .int .i64 m := hd.2.1 rfl
            clear hd
            simp only [e10, e11] at hK
            have hK := Lib.hid hK
            go_wp2
            exact hK.out _ _ rfl (Below.refl _ _) (fun h => by cases h)
          refine steps2_cons ?_ ?_
          · intro f w1 hb hd Q hK
            have e12 : f 12 = .pointer (some ⟨g, o + m * 2, none⟩) := hd.1 rfl
            clear hd
            simp only [e12] at hK
            have hK := Lib.hid hK
            have c0 := (hb.cell (p := ⟨g, o + m * 2, none⟩) hg).trans cx
            have c1 := (hb.cell (p := ⟨g, o + m * 2 + 1, none⟩) hg).trans cy
            go_wp2
            exact hK.out _ _ rfl (Below.refl _ _) (fun h => by cases h)
          refine steps2_cons ?_ ?_
          · intro f w1 hb hd Q hK
            have e13 : f 13 = .agg #[.int .i64 x, .int .i64 y] := hd.1 rfl
            clear hd
            simp only [e13] at hK
            have hK := Lib.hid hK
            go_wp2_with fail
            refine (hrt.out _).mono ?_
            rintro e w2 ⟨rfl, hb2⟩
            go_wp2
            exact hK.out _ _ rfl hb2 (fun h => by cases h)
          refine steps2_cons ?_ ?_
          · intro f w1 hb hd Q hK
            have e14 : f 14 = .bool false := hd.1 rfl
            clear hd
            simp only [e14] at hK
            have hK := Lib.hid hK
            go_wp2
            exact hK.out _ _ rfl (Below.refl _ _) (fun h => by cases h)
          refine steps2_cons ?_ ?_
          · intro f w1 hb hd Q hK
            have e15 : f 15 = .bool true := hd.1 rfl
            clear hd
            simp only [e15] at hK
            have hK := Lib.hid hK
            go_wp2
            exact hK.out _ _ rfl (Below.refl _ _) (fun h => by cases h)
          refine steps2_cons ?_ ?_
          · intro f w1 hb hd Q hK
            have e16 : f 16 = .bool true := hd.1 rfl
            clear hd
            simp only [e16] at hK
            have hK := Lib.hid hK
            go_wp2
            exact hK.out _ _ rfl (Below.refl _ _) (fun h => by cases h)
          refine steps2_cons ?_ ?_
          · intro f w1 hb hd Q hK
            have e17 : f 17 = undef := hd.1 rfl
            have e16 : f 16 = .bool true := hd.2.1 rfl
            clear hd
            simp only [e17, e16] at hK
            have hK := Lib.hid hK
            go_wp2
            exact hK.out _ _ rfl (Below.refl _ _) (fun h => by cases h)
          refine steps2_cons ?_ ?_
          · intro f w1 hb hd Q hK
            have e18 : f 18 = undef := hd.1 rfl
            have e16 : f 16 = .bool true := hd.2.1 rfl
            clear hd
            simp only [e18, e16] at hK
            have hK := Lib.hid hK
            go_wp2
            exact hK.out _ _ rfl (Below.refl _ _) (fun h => by cases h)
          refine steps2_cons ?_ ?_
          · intro f w1 hb hd Q hK
            have e19 : f 19 = .tuple #[] := hd.1 rfl
            clear hd
            simp only [e19] at hK
            have hK := Lib.hid hK
            go_wp2
            exact hK.out _ _ rfl (Below.refl _ _) (fun h => by cases h)
          refine steps2_cons ?_ ?_
          · intro f w1 hb hd Q hK
            have e19 : f 19 = .tuple #[] := hd.1 rfl
            clear hd
            simp only [e19] at hK
            have hK := Lib.hid hK
            go_wp2
            exact hK.out _ _ rfl (Below.refl _ _) (fun h => by cases h)
          refine steps2_cons ?_ ?_
          · intro f w1 hb hd Q hK
            have e21 : f 21 = undef := hd.1 rfl
            have e19 : f 19 = .tuple #[] := hd.2.1 rfl
            clear hd
            simp only [e21, e19] at hK
            have hK := Lib.hid hK
            go_wp2
            exact hK.out _ _ rfl (Below.refl _ _) (fun h => by cases h)
          refine steps2_cons ?_ ?_
          · intro f w1 hb hd Q hK
            have e20 : f 20 = undef := hd.1 rfl
            have e22 : f 22 = undef := hd.2.1 rfl
            have e19 : f 19 = .tuple #[] := hd.2.2.1 rfl
            clear hd
            simp only [e20, e22, e19] at hK
            have hK := Lib.hid hK
            go_wp2
            exact hK.out _ _ rfl (Below.refl _ _) (fun h => by cases h)
          refine steps2_cons ?_ ?_
          · intro f w1 hb hd Q hK
            have e23 : f 23 = undef := hd.1 rfl
            have e19 : f 19 = .tuple #[] := hd.2.1 rfl
            clear hd
            simp only [e23, e19] at hK
            have hK := Lib.hid hK
            go_wp2
            exact hK.out _ _ rfl (Below.refl _ _) (fun h => by cases h)
          refine steps2_cons ?_ ?_
          · intro f w1 hb hd Q hK
            have e24 : f 24 = undef := hd.1 rfl
            have e19 : f 19 = .tuple #[] := hd.2.1 rfl
            clear hd
            simp only [e24, e19] at hK
            have hK := Lib.hid hK
            go_wp2
            exact hK.out _ _ rfl (Below.refl _ _) (fun h => by cases h)
          refine steps2_cons ?_ ?_
          · intro f w1 hb hd Q hK
            have e19 : f 19 = .tuple #[] := hd.1 rfl
            clear hd
            simp only [e19] at hK
            have hK := Lib.hid hK
            go_wp2
            exact hK.out _ _ rfl (Below.refl _ _) (fun h => by cases h)
          refine steps2_cons ?_ ?_
          · intro f w1 hb hd Q hK
            have e19 : f 19 = .tuple #[] := hd.1 rfl
            clear hd
            simp only [e19] at hK
            have hK := Lib.hid hK
            go_wp2
            exact hK.out _ _ rfl (Below.refl _ _) (fun h => by cases h)
          refine steps2_cons ?_ ?_
          · intro f w1 hb hd Q hK
            have e26 : f 26 = undef := hd.1 rfl
            have e27 : f 27 = undef := hd.2.1 rfl
            have e19 : f 19 = .tuple #[] := hd.2.2.1 rfl
            clear hd
            simp only [e26, e27, e19] at hK
            have hK := Lib.hid hK
            go_wp2
            exact hK.out _ _ rfl (Below.refl _ _) (fun h => by cases h)
          refine steps2_cons ?_ ?_
          · intro f w1 hb hd Q hK
            have e28 : f 28 = undef := hd.1 rfl
            have e19 : f 19 = .tuple #[] := hd.2.1 rfl
            clear hd
            simp only [e28, e19] at hK
            have hK := Lib.hid hK
            go_wp2
            exact hK.out _ _ rfl (Below.refl _ _) (fun h => by cases h)
          refine steps2_cons ?_ ?_
          · intro f w1 hb hd Q hK
            have e29 : f 29 = undef := hd.1 rfl
            have e19 : f 19 = .tuple #[] := hd.2.1 rfl
            clear hd
            simp only [e29, e19] at hK
            have hK := Lib.hid hK
            go_wp2
            exact hK.out _ _ rfl (Below.refl _ _) (fun h => by cases h)
          refine steps2_cons ?_ ?_
          · intro f w1 hb hd Q hK
            have e25 : f 25 = undef := hd.1 rfl
            have e30 : f 30 = undef := hd.2.1 rfl
            have e19 : f 19 = .tuple #[] := hd.2.2.1 rfl
            clear hd
            simp only [e25, e30, e19] at hK
            have hK := Lib.hid hK
            go_wp2
            exact hK.out _ _ rfl (Below.refl _ _) (fun h => by cases h)
          refine steps2_cons ?_ ?_
          · intro f w1 hb hd Q hK
            have e19 : f 19 = undef := hd.1 rfl
            have e31 : f 31 = undef := hd.2.1 rfl
            have e16 : f 16 = .bool true := hd.2.2.1 rfl
            clear hd
            simp only [e19, e31, e16] at hK
            have hK := Lib.hid hK
            go_wp2
            exact hK.out _ _ rfl (Below.refl _ _) (fun h => by cases h)
          refine steps2_cons ?_ ?_
          · intro f w1 hb hd Q hK
            have e16 : f 16 = .bool true := hd.1 rfl
            have e32 : f 32 = undef := hd.2.1 rfl
            clear hd
            simp only [e16, e32] at hK
            have hK := Lib.hid hK
            go_wp2
            exact hK.out _ _ rfl (Below.refl _ _) (fun h => by cases h)
          trivial
        · intro f w1 hb2 hf hne
          refine wpList_nil ?_
          have d33 : f 33 = .bool true := hf 23 _ _ (by decide) rfl rfl
          clear hf hne
          simp only [d33]
          clear d33
          have hb9 := hb.trans (hb2.mono hb.size)
          go_wp2
          go_returns
          exact ⟨by rw [hf.out]; rfl, hb9⟩
      · rw [hok] at hrt
        replace hrt := Lib.hid hrt
        by_cases hm : m = 0
        · have hm3 : ¬ 0 < (m : Int) := by omega
          have hm4 : ¬ 0 < m := by omega
          have hn := Lib.hid (hnext.out hok (fun h => by omega))
          clear hpre hnext hstop hok hm
          go_wp2
          refine wp_region_grow2 24 (fun k => (Nat.ble 10 k && Nat.ble k 33)) _ [] (fun j x' q => (rr2L x y g o n c m).getD j (fun _ _ => True) x' q) (fun _ => false) (fun f => #[.slice (some ⟨g, o, none⟩) n c, undef, u2, .int .i64 m, .int .i64 m, .slice (some ⟨g, o, none⟩) n c, .int .i64 n, .bool true, u8, u9, f 10, f 11, f 12, f 13, f 14, f 15, f 16, f 17, f 18, f 19, f 20, f 21, f 22, f 23, f 24, f 25, f 26, f 27, f 28, f 29, f 30, f 31, f 32, f 33]) (fun f => rfl) (by kernel_rfl) (by kernel_rfl) (by kernel_rfl) (by kernel_rfl) (by kernel_rfl) (rr2S _ _ _ _ _ _ _) (fun _ _ _ h => by cases h) ?_ ?_
          · refine steps2_cons ?_ ?_
            · intro f w1 hb hd Q hK
              clear hd
              have hK := Lib.hid hK
              go_wp2
              exact hK.out _ _ rfl (Below.refl _ _) (fun h => by cases h)
            refine steps2_cons ?_ ?_
            · intro f w1 hb hd Q hK
              clear hd
              have hK := Lib.hid hK
              go_wp2
              exact hK.out _ _ rfl (Below.refl _ _) (fun h => by cases h)
            refine steps2_cons ?_ ?_
            · intro f w1 hb hd Q hK
              have e10 : f 10 = .slice (some ⟨g, o, none⟩) n c := hd.1 rfl
              have e11 : f 11 = .int .i64 m := hd.2.1 rfl
              clear hd
              simp only [e10, e11] at hK
              have hK := Lib.hid hK
              go_wp2
              exact hK.out _ _ rfl (Below.refl _ _) (fun h => by cases h)
            refine steps2_cons ?_ ?_
            · intro f w1 hb hd Q hK
              have e12 : f 12 = .pointer (some ⟨g, o + m * 2, none⟩) := hd.1 rfl
              clear hd
              simp only [e12] at hK
              have hK := Lib.hid hK
              have c0 := (hb.cell (p := ⟨g, o + m * 2, none⟩) hg).trans cx
              have c1 := (hb.cell (p := ⟨g, o + m * 2 + 1, none⟩) hg).trans cy
              go_wp2
              exact hK.out _ _ rfl (Below.refl _ _) (fun h => by cases h)
            refine steps2_cons ?_ ?_
            · intro f w1 hb hd Q hK
              have e13 : f 13 = .agg #[.int .i64 x, .int .i64 y] := hd.1 rfl
              clear hd
              simp only [e13] at hK
              have hK := Lib.hid hK
              go_wp2_with fail
              refine (hrt.out _).mono ?_
              rintro e w2 ⟨rfl, hb2⟩
              go_wp2
              exact hK.out _ _ rfl hb2 (fun h => by cases h)
            refine steps2_cons ?_ ?_
            · intro f w1 hb hd Q hK
              have e14 : f 14 = .bool true := hd.1 rfl
              clear hd
              simp only [e14] at hK
              have hK := Lib.hid hK
              go_wp2
              exact hK.out _ _ rfl (Below.refl _ _) (fun h => by cases h)
            refine steps2_cons ?_ ?_
            · intro f w1 hb hd Q hK
              have e15 : f 15 = .bool false := hd.1 rfl
              clear hd
              simp only [e15] at hK
              have hK := Lib.hid hK
              go_wp2
              exact hK.out _ _ rfl (Below.refl _ _) (fun h => by cases h)
            refine steps2_cons ?_ ?_
            · intro f w1 hb hd Q hK
              have e16 : f 16 = .bool false := hd.1 rfl
              clear hd
              simp only [e16] at hK
              have hK := Lib.hid hK
              go_wp2
              exact hK.out _ _ rfl (Below.refl _ _) (fun h => by cases h)
            refine steps2_cons ?_ ?_
            · intro f w1 hb hd Q hK
              have e17 : f 17 = .int .i64 m := hd.1 rfl
              have e16 : f 16 = .bool false := hd.2.1 rfl
              clear hd
              simp only [e17, e16] at hK
              have hK := Lib.hid hK
              go_wp2
              exact hK.out _ _ rfl (Below.refl _ _) (fun h => by cases h)
            refine steps2_cons ?_ ?_
            · intro f w1 hb hd Q hK
              have e18 : f 18 = .bool false := hd.1 rfl
              have e16 : f 16 = .bool false := hd.2.1 rfl
              clear hd
              simp only [e18, e16] at hK
              have hK := Lib.hid hK
              go_wp2
              exact hK.out _ _ rfl (Below.refl _ _) (fun h => by cases h)
            refine steps2_cons ?_ ?_
            · intro f w1 hb hd Q hK
              have e19 : f 19 = .bool false := hd.1 rfl
              clear hd
              simp only [e19] at hK
              have hK := Lib.hid hK
              go_wp2
              exact hK.out _ _ rfl (Below.refl _ _) (fun h => by cases h)
            refine steps2_cons ?_ ?_
            · intro f w1 hb hd Q hK
              have e19 : f 19 = .bool false := hd.1 rfl
              clear hd
              simp only [e19] at hK
              have hK := Lib.hid hK
              go_wp2
              exact hK.out _ _ rfl (Below.refl _ _) (fun h => by cases h)
            refine steps2_cons ?_ ?_
            · intro f w1 hb hd Q hK
              have e21 : f 21 = undef := hd.1 rfl
              have e19 : f 19 = .bool false := hd.2.1 rfl
              clear hd
              simp only [e21, e19] at hK
              have hK := Lib.hid hK
              go_wp2
              exact hK.out _ _ rfl (Below.refl _ _) (fun h => by cases h)
            refine steps2_cons ?_ ?_
            · intro f w1 hb hd Q hK
              have e20 : f 20 = undef := hd.1 rfl
              have e22 : f 22 = undef := hd.2.1 rfl
              have e19 : f 19 = .bool false := hd.2.2.1 rfl
              clear hd
              simp only [e20, e22, e19] at hK
              have hK := Lib.hid hK
              go_wp2
              exact hK.out _ _ rfl (Below.refl _ _) (fun h => by cases h)
            refine steps2_cons ?_ ?_
            · intro f w1 hb hd Q hK
              have e23 : f 23 = undef := hd.1 rfl
              have e19 : f 19 = .bool false := hd.2.1 rfl
              clear hd
              simp only [e23, e19] at hK
              have hK := Lib.hid hK
              go_wp2
              exact hK.out _ _ rfl (Below.refl _ _) (fun h => by cases h)
            refine steps2_cons ?_ ?_
            · intro f w1 hb hd Q hK
              have e24 : f 24 = undef := hd.1 rfl
              have e19 : f 19 = .bool false := hd.2.1 rfl
              clear hd
              simp only [e24, e19] at hK
              have hK := Lib.hid hK
              go_wp2
              exact hK.out _ _ rfl (Below.refl _ _) (fun h => by cases h)
            refine steps2_cons ?_ ?_
            · intro f w1 hb hd Q hK
              have e19 : f 19 = .bool false := hd.1 rfl
              clear hd
              simp only [e19] at hK
              have hK := Lib.hid hK
              go_wp2
              exact hK.out _ _ rfl (Below.refl _ _) (fun h => by cases h)
            refine steps2_cons ?_ ?_
            · intro f w1 hb hd Q hK
              have e19 : f 19 = .bool false := hd.1 rfl
              clear hd
              simp only [e19] at hK
              have hK := Lib.hid hK
              go_wp2
              exact hK.out _ _ rfl (Below.refl _ _) (fun h => by cases h)
            refine steps2_cons ?_ ?_
            · intro f w1 hb hd Q hK
              have e26 : f 26 = undef := hd.1 rfl
              have e27 : f 27 = undef := hd.2.1 rfl
              have e19 : f 19 = .bool false := hd.2.2.1 rfl
              clear hd
              simp only [e26, e27, e19] at hK
              have hK := Lib.hid hK
              go_wp2
              exact hK.out _ _ rfl (Below.refl _ _) (fun h => by cases h)
            refine steps2_cons ?_ ?_
            · intro f w1 hb hd Q hK
              have e28 : f 28 = undef := hd.1 rfl
              have e19 : f 19 = .bool false := hd.2.1 rfl
              clear hd
              simp only [e28, e19] at hK
              have hK := Lib.hid hK
              go_wp2
              exact hK.out _ _ rfl (Below.refl _ _) (fun h => by cases h)
            refine steps2_cons ?_ ?_
            · intro f w1 hb hd Q hK
              have e29 : f 29 = undef := hd.1 rfl
              have e19 : f 19 = .bool false := hd.2.1 rfl
              clear hd
              simp only [e29, e19] at hK
              have hK := Lib.hid hK
              go_wp2
              exact hK.out _ _ rfl (Below.refl _ _) (fun h => by cases h)
            refine steps2_cons ?_ ?_
            · intro f w1 hb hd Q hK
              have e25 : f 25 = undef := hd.1 rfl
              have e30 : f 30 = undef := hd.2.1 rfl
              have e19 : f 19 = .bool false := hd.2.2.1 rfl
              clear hd
              simp only [e25, e30, e19] at hK
              have hK := Lib.hid hK
              go_wp2
              exact hK.out _ _ rfl (Below.refl _ _) (fun h => by cases h)
            refine steps2_cons ?_ ?_
            · intro f w1 hb hd Q hK
              have e19 : f 19 = .bool false := hd.1 rfl
              have e31 : f 31 = undef := hd.2.1 rfl
              have e16 : f 16 = .bool false := hd.2.2.1 rfl
              clear hd
              simp only [e19, e31, e16] at hK
              have hK := Lib.hid hK
              go_wp2
              exact hK.out _ _ rfl (Below.refl _ _) (fun h => by cases h)
            refine steps2_cons ?_ ?_
            · intro f w1 hb hd Q hK
              have e16 : f 16 = .bool false := hd.1 rfl
              have e32 : f 32 = .bool false := hd.2.1 rfl
              clear hd
              simp only [e16, e32] at hK
              have hK := Lib.hid hK
              go_wp2
              exact hK.out _ _ rfl (Below.refl _ _) (fun h => by cases h)
            trivial
          · intro f w1 hb2 hf hne
            refine wpList_nil ?_
            have d33 : f 33 = .bool false := hf 23 _ _ (by decide) rfl rfl
            clear hf hne
            simp only [d33]
            clear d33
            have hb9 := hb.trans (hb2.mono hb.size)
            go_wp2
            exact ⟨⟨m + 1, by omega, rfl, hn.out, hb9⟩, by simp [intOf]; omega⟩
        · have hm3 : 0 < (m : Int) := by omega
          have hm4 : 0 < m := by omega
          obtain ⟨k, hk⟩ : ∃ k, k = m - 1 := ⟨_, rfl⟩
          have hk1 : (m : Int) - 1 = (k : Int) := by omega
          have hk0 : (0 : Int) ≤ (k : Int) := by omega
          have hk2 : (k : Int) < (n : Int) := by omega
          have cp := hpre.out (by omega)
          rw [← hk] at cp hnext hstop
          by_cases hlt : D (k * 2) < x
          · have hn := Lib.hid (hnext.out hok (fun h => hlt))
            have hz : ¬ x ≤ D (k * 2) := by omega
            have hz2 : decide (x ≤ D (k * 2)) = false := decide_eq_false hz
            generalize D (k * 2) = z at *
            clear hpre hnext hstop hok hm hlt hk
            go_wp2
            refine wp_region_grow2 24 (fun k => (Nat.ble 10 k && Nat.ble k 33)) _ [] (fun j x' q => (rr3L x y z g o n c m k).getD j (fun _ _ => True) x' q) (fun _ => false) (fun f => #[.slice (some ⟨g, o, none⟩) n c, undef, u2, .int .i64 m, .int .i64 m, .slice (some ⟨g, o, none⟩) n c, .int .i64 n, .bool true, u8, u9, f 10, f 11, f 12, f 13, f 14, f 15, f 16, f 17, f 18, f 19, f 20, f 21, f 22, f 23, f 24, f 25, f 26, f 27, f 28, f 29, f 30, f 31, f 32, f 33]) (fun f => rfl) (by kernel_rfl) (by kernel_rfl) (by kernel_rfl) (by kernel_rfl) (by kernel_rfl) (rr3S _ _ _ _ _ _ _ _ _) (fun _ _ _ h => by cases h) ?_ ?_
            · refine steps2_cons ?_ ?_
              · intro f w1 hb hd Q hK
                clear hd
                have hK := Lib.hid hK
                go_wp2
                exact hK.out _ _ rfl (Below.refl _ _) (fun h => by cases h)
              refine steps2_cons ?_ ?_
              · intro f w1 hb hd Q hK
                clear hd
                have hK := Lib.hid hK
                go_wp2
                exact hK.out _ _ rfl (Below.refl _ _) (fun h => by cases h)
              refine steps2_cons ?_ ?_
              · intro f w1 hb hd Q hK
                have e10 : f 10 = .slice (some ⟨g, o, none⟩) n c := hd.1 rfl
                have e11 : f 11 = .int .i64 m := hd.2.1 rfl
                clear hd
                simp only [e10, e11] at hK
                have hK := Lib.hid hK
                go_wp2
                exact hK.out _ _ rfl (Below.refl _ _) (fun h => by cases h)
              refine steps2_cons ?_ ?_
              · intro f w1 hb hd Q hK
                have e12 : f 12 = .pointer (some ⟨g, o + m * 2, none⟩) := hd.1 rfl
                clear hd
                simp only [e12] at hK
                have hK := Lib.hid hK
                have c0 := (hb.cell (p := ⟨g, o + m * 2, none⟩) hg).trans cx
                have c1 := (hb.cell (p := ⟨g, o + m * 2 + 1, none⟩) hg).trans cy
                go_wp2
                exact hK.out _ _ rfl (Below.refl _ _) (fun h => by cases h)
              refine steps2_cons ?_ ?_
              · intro f w1 hb hd Q hK
                have e13 : f 13 = .agg #[.int .i64 x, .int .i64 y] := hd.1 rfl
                clear hd
                simp only [e13] at hK
                have hK := Lib.hid hK
                go_wp2_with fail
                refine (hrt.out _).mono ?_
                rintro e w2 ⟨rfl, hb2⟩
                go_wp2
                exact hK.out _ _ rfl hb2 (fun h => by cases h)
              refine steps2_cons ?_ ?_
              · intro f w1 hb hd Q hK
                have e14 : f 14 = .bool true := hd.1 rfl
                clear hd
                simp only [e14] at hK
                have hK := Lib.hid hK
                go_wp2
                exact hK.out _ _ rfl (Below.refl _ _) (fun h => by cases h)
              refine steps2_cons ?_ ?_
              · intro f w1 hb hd Q hK
                have e15 : f 15 = .bool false := hd.1 rfl
                clear hd
                simp only [e15] at hK
                have hK := Lib.hid hK
                go_wp2
                exact hK.out _ _ rfl (Below.refl _ _) (fun h => by cases h)
              refine steps2_cons ?_ ?_
              · intro f w1 hb hd Q hK
                have e16 : f 16 = .bool false := hd.1 rfl
                clear hd
                simp only [e16] at hK
                have hK := Lib.hid hK
                go_wp2
                exact hK.out _ _ rfl (Below.refl _ _) (fun h => by cases h)
              refine steps2_cons ?_ ?_
              · intro f w1 hb hd Q hK
                have e17 : f 17 = .int .i64 m := hd.1 rfl
                have e16 : f 16 = .bool false := hd.2.1 rfl
                clear hd
                simp only [e17, e16] at hK
                have hK := Lib.hid hK
                go_wp2
                exact hK.out _ _ rfl (Below.refl _ _) (fun h => by cases h)
              refine steps2_cons ?_ ?_
              · intro f w1 hb hd Q hK
                have e18 : f 18 = .bool true := hd.1 rfl
                have e16 : f 16 = .bool false := hd.2.1 rfl
                clear hd
                simp only [e18, e16] at hK
                have hK := Lib.hid hK
                go_wp2
                exact hK.out _ _ rfl (Below.refl _ _) (fun h => by cases h)
              refine steps2_cons ?_ ?_
              · intro f w1 hb hd Q hK
                have e19 : f 19 = .bool true := hd.1 rfl
                clear hd
                simp only [e19] at hK
                have hK := Lib.hid hK
                go_wp2
                exact hK.out _ _ rfl (Below.refl _ _) (fun h => by cases h)
              refine steps2_cons ?_ ?_
              · intro f w1 hb hd Q hK
                have e19 : f 19 = .bool true := hd.1 rfl
                clear hd
                simp only [e19] at hK
                have hK := Lib.hid hK
                go_wp2
                exact hK.out _ _ rfl (Below.refl _ _) (fun h => by cases h)
              refine steps2_cons ?_ ?_
              · intro f w1 hb hd Q hK
                have e21 : f 21 = .int .i64 m := hd.1 rfl
                have e19 : f 19 = .bool true := hd.2.1 rfl
                clear hd
                simp only [e21, e19] at hK
                have hK := Lib.hid hK
                go_wp2
                exact hK.out _ _ rfl (Below.refl _ _) (fun h => by cases h)
              refine steps2_cons ?_ ?_
              · intro f w1 hb hd Q hK
                have e20 : f 20 = .slice (some ⟨g, o, none⟩) n c := hd.1 rfl
                have e22 : f 22 = .int .i64 k := hd.2.1 rfl
                have e19 : f 19 = .bool true := hd.2.2.1 rfl
                clear hd
                simp only [e20, e22, e19] at hK
                have hK := Lib.hid hK
                go_wp2
                exact hK.out _ _ rfl (Below.refl _ _) (fun h => by cases h)
              refine steps2_cons ?_ ?_
              · intro f w1 hb hd Q hK
                have e23 : f 23 = .pointer (some ⟨g, o + k * 2, none⟩) := hd.1 rfl
                have e19 : f 19 = .bool true := hd.2.1 rfl
                clear hd
                simp only [e23, e19] at hK
                have hK := Lib.hid hK
                go_wp2
                exact hK.out _ _ rfl (Below.refl _ _) (fun h => by cases h)
              refine steps2_cons ?_ ?_
              · intro f w1 hb hd Q hK
                have e24 : f 24 = .pointer (some ⟨g, o + k * 2, none⟩) := hd.1 rfl
                have e19 : f 19 = .bool true := hd.2.1 rfl
                clear hd
                simp only [e24, e19] at hK
                have hK := Lib.hid hK
                have c0 := (hb.cell (p := ⟨g, o + k * 2, none⟩) hg).trans cp
                go_wp2
                exact hK.out _ _ rfl (Below.refl _ _) (fun h => by cases h)
              refine steps2_cons ?_ ?_
              · intro f w1 hb hd Q hK
                have e19 : f 19 = .bool true := hd.1 rfl
                clear hd
                simp only [e19] at hK
                have hK := Lib.hid hK
                go_wp2
                exact hK.out _ _ rfl (Below.refl _ _) (fun h => by cases h)
              refine steps2_cons ?_ ?_
              · intro f w1 hb hd Q hK
                have e19 : f 19 = .bool true := hd.1 rfl
                clear hd
                simp only [e19] at hK
                have hK := Lib.hid hK
                go_wp2
                exact hK.out _ _ rfl (Below.refl _ _) (fun h => by cases h)
              refine steps2_cons ?_ ?_
              · intro f w1 hb hd Q hK
                have e26 : f 26 = .slice (some ⟨g, o, none⟩) n c := hd.1 rfl
                have e27 : f 27 = .int .i64 m := hd.2.1 rfl
                have e19 : f 19 = .bool true := hd.2.2.1 rfl
                clear hd
                simp only [e26, e27, e19] at hK
                have hK := Lib.hid hK
                go_wp2
                exact hK.out _ _ rfl (Below.refl _ _) (fun h => by cases h)
              refine steps2_cons ?_ ?_
              · intro f w1 hb hd Q hK
                have e28 : f 28 = .pointer (some ⟨g, o + m * 2, none⟩) := hd.1 rfl
                have e19 : f 19 = .bool true := hd.2.1 rfl
                clear hd
                simp only [e28, e19] at hK
                have hK := Lib.hid hK
                go_wp2
                exact hK.out _ _ rfl (Below.refl _ _) (fun h => by cases h)
              refine steps2_cons ?_ ?_
              · intro f w1 hb hd Q hK
                have e29 : f 29 = .pointer (some ⟨g, o + m * 2, none⟩) := hd.1 rfl
                have e19 : f 19 = .bool true := hd.2.1 rfl
                clear hd
                simp only [e29, e19] at hK
                have hK := Lib.hid hK
                have c0 := (hb.cell (p := ⟨g, o + m * 2, none⟩) hg).trans cx
                go_wp2
                exact hK.out _ _ rfl (Below.refl _ _) (fun h => by cases h)
              refine steps2_cons ?_ ?_
              · intro f w1 hb hd Q hK
                have e25 : f 25 = .int .i64 z := hd.1 rfl
                have e30 : f 30 = .int .i64 x := hd.2.1 rfl
                have e19 : f 19 = .bool true := hd.2.2.1 rfl
                clear hd
                simp only [e25, e30, e19] at hK
                have hK := Lib.hid hK
                go_wp2
                exact hK.out _ _ rfl (Below.refl _ _) (fun h => by cases h)
              refine steps2_cons ?_ ?_
              · intro f w1 hb hd Q hK
                have e19 : f 19 = .bool true := hd.1 rfl
                have e31 : f 31 = .bool false := hd.2.1 rfl
                have e16 : f 16 = .bool false := hd.2.2.1 rfl
                clear hd
                simp only [e19, e31, e16] at hK
                have hK := Lib.hid hK
                go_wp2
                exact hK.out _ _ rfl (Below.refl _ _) (fun h => by cases h)
              refine steps2_cons ?_ ?_
              · intro f w1 hb hd Q hK
                have e16 : f 16 = .bool false := hd.1 rfl
                have e32 : f 32 = .bool false := hd.2.1 rfl
                clear hd
                simp only [e16, e32] at hK
                have hK := Lib.hid hK
                go_wp2
                exact hK.out _ _ rfl (Below.refl _ _) (fun h => by cases h)
              trivial
            · intro f w1 hb2 hf hne
              refine wpList_nil ?_
              have d33 : f 33 = .bool false := hf 23 _ _ (by decide) rfl rfl
              clear hf hne
              simp only [d33]
              clear d33
              have hb9 := hb.trans (hb2.mono hb.size)
              go_wp2
              exact ⟨⟨m + 1, by omega, rfl, hn.out, hb9⟩, by simp [intOf]; omega⟩
          · have hf := Lib.hid (hstop.out (fun h => hlt (h.2 (by omega))))
            have hz : x ≤ D (k * 2) := by omega
            generalize D (k * 2) = z at *
            clear hpre hnext hstop hok hm hlt hk
            go_wp2
            refine wp_region_grow2 24 (fun k => (Nat.ble 10 k && Nat.ble k 33)) _ [] (fun j x' q => (rr4L x y z g o n c m k).getD j (fun _ _ => True) x' q) (fun _ => false) (fun f => #[.slice (some ⟨g, o, none⟩) n c, undef, u2, .int .i64 m, .int .i64 m, .slice (some ⟨g, o, none⟩) n c, .int .i64 n, .bool true, u8, u9, f 10, f 11, f 12, f 13, f 14, f 15, f 16, f 17, f 18, f 19, f 20, f 21, f 22, f 23, f 24, f 25, f 26, f 27, f 28, f 29, f 30, f 31, f 32, f 33]) (fun f => rfl) (by kernel_rfl) (by kernel_rfl) (by kernel_rfl) (by kernel_rfl) (by kernel_rfl) (rr4S _ _ _ _ _ _ _ _ _) (fun _ _ _ h => by cases h) ?_ ?_
            · refine steps2_cons ?_ ?_
              · intro f w1 hb hd Q hK
                clear hd
                have hK := Lib.hid hK
                go_wp2
                exact hK.out _ _ rfl (Below.refl _ _) (fun h => by cases h)
              refine steps2_cons ?_ ?_
              · intro f w1 hb hd Q hK
                clear hd
                have hK := Lib.hid hK
                go_wp2
                exact hK.out _ _ rfl (Below.refl _ _) (fun h => by cases h)
              refine steps2_cons ?_ ?_
              · intro f w1 hb hd Q hK
                have e10 : f 10 = .slice (some ⟨g, o, none⟩) n c := hd.1 rfl
                have e11 : f 11 = .int .i64 m := hd.2.1 rfl
                clear hd
                simp only [e10, e11] at hK
                have hK := Lib.hid hK
                go_wp2
                exact hK.out _ _ rfl (Below.refl _ _) (fun h => by cases h)
              refine steps2_cons ?_ ?_
              · intro f w1 hb hd Q hK
                have e12 : f 12 = .pointer (some ⟨g, o + m * 2, none⟩) := hd.1 rfl
                clear hd
                simp only [e12] at hK
                have hK := Lib.hid hK
                have c0 := (hb.cell (p := ⟨g, o + m * 2, none⟩) hg).trans cx
                have c1 := (hb.cell (p := ⟨g, o + m * 2 + 1, none⟩) hg).trans cy
                go_wp2
                exact hK.out _ _ rfl (Below.refl _ _) (fun h => by cases h)
              refine steps2_cons ?_ ?_
              · intro f w1 hb hd Q hK
                have e13 : f 13 = .agg #[.int .i64 x, .int .i64 y] := hd.1 rfl
                clear hd
                simp only [e13] at hK
                have hK := Lib.hid hK
                go_wp2_with fail
                refine (hrt.out _).mono ?_
                rintro e w2 ⟨rfl, hb2⟩
                go_wp2
                exact hK.out _ _ rfl hb2 (fun h => by cases h)
              refine steps2_cons ?_ ?_
              · intro f w1 hb hd Q hK
                have e14 : f 14 = .bool true := hd.1 rfl
                clear hd
                simp only [e14] at hK
                have hK := Lib.hid hK
                go_wp2
                exact hK.out _ _ rfl (Below.refl _ _) (fun h => by cases h)
              refine steps2_cons ?_ ?_
              · intro f w1 hb hd Q hK
                have e15 : f 15 = .bool false := hd.1 rfl
                clear hd
                simp only [e15] at hK
                have hK := Lib.hid hK
                go_wp2
                exact hK.out _ _ rfl (Below.refl _ _) (fun h => by cases h)
              refine steps2_cons ?_ ?_
              · intro f w1 hb hd Q hK
                have e16 : f 16 = .bool false := hd.1 rfl
                clear hd
                simp only [e16] at hK
                have hK := Lib.hid hK
                go_wp2
                exact hK.out _ _ rfl (Below.refl _ _) (fun h => by cases h)
              refine steps2_cons ?_ ?_
              · intro f w1 hb hd Q hK
                have e17 : f 17 = .int .i64 m := hd.1 rfl
                have e16 : f 16 = .bool false := hd.2.1 rfl
                clear hd
                simp only [e17, e16] at hK
                have hK := Lib.hid hK
                go_wp2
                exact hK.out _ _ rfl (Below.refl _ _) (fun h => by cases h)
              refine steps2_cons ?_ ?_
              · intro f w1 hb hd Q hK
                have e18 : f 18 = .bool true := hd.1 rfl
                have e16 : f 16 = .bool false := hd.2.1 rfl
                clear hd
                simp only [e18, e16] at hK
                have hK := Lib.hid hK
                go_wp2
                exact hK.out _ _ rfl (Below.refl _ _) (fun h => by cases h)
              refine steps2_cons ?_ ?_
              · intro f w1 hb hd Q hK
                have e19 : f 19 = .bool true := hd.1 rfl
                clear hd
                simp only [e19] at hK
                have hK := Lib.hid hK
                go_wp2
                exact hK.out _ _ rfl (Below.refl _ _) (fun h => by cases h)
              refine steps2_cons ?_ ?_
              · intro f w1 hb hd Q hK
                have e19 : f 19 = .bool true := hd.1 rfl
                clear hd
                simp only [e19] at hK
                have hK := Lib.hid hK
                go_wp2
                exact hK.out _ _ rfl (Below.refl _ _) (fun h => by cases h)
              refine steps2_cons ?_ ?_
              · intro f w1 hb hd Q hK
                have e21 : f 21 = .int .i64 m := hd.1 rfl
                have e19 : f 19 = .bool true := hd.2.1 rfl
                clear hd
                simp only [e21, e19] at hK
                have hK := Lib.hid hK
                go_wp2
                exact hK.out _ _ rfl (Below.refl _ _) (fun h => by cases h)
              refine steps2_cons ?_ ?_
              · intro f w1 hb hd Q hK
                have e20 : f 20 = .slice (some ⟨g, o, none⟩) n c := hd.1 rfl
                have e22 : f 22 = .int .i64 k := hd.2.1 rfl
                have e19 : f 19 = .bool true := hd.2.2.1 rfl
                clear hd
                simp only [e20, e22, e19] at hK
                have hK := Lib.hid hK
                go_wp2
                exact hK.out _ _ rfl (Below.refl _ _) (fun h => by cases h)
              refine steps2_cons ?_ ?_
              · intro f w1 hb hd Q hK
                have e23 : f 23 = .pointer (some ⟨g, o + k * 2, none⟩) := hd.1 rfl
                have e19 : f 19 = .bool true := hd.2.1 rfl
                clear hd
                simp only [e23, e19] at hK
                have hK := Lib.hid hK
                go_wp2
                exact hK.out _ _ rfl (Below.refl _ _) (fun h => by cases h)
              refine steps2_cons ?_ ?_
              · intro f w1 hb hd Q hK
                have e24 : f 24 = .pointer (some ⟨g, o + k * 2, none⟩) := hd.1 rfl
                have e19 : f 19 = .bool true := hd.2.1 rfl
                clear hd
                simp only [e24, e19] at hK
                have hK := Lib.hid hK
                have c0 := (hb.cell (p := ⟨g, o + k * 2, none⟩) hg).trans cp
                go_wp2
                exact hK.out _ _ rfl (Below.refl _ _) (fun h => by cases h)
              refine steps2_cons ?_ ?_
              · intro f w1 hb hd Q hK
                have e19 : f 19 = .bool true := hd.1 rfl
                clear hd
                simp only [e19] at hK
                have hK := Lib.hid hK
                go_wp2
                exact hK.out _ _ rfl (Below.refl _ _) (fun h => by cases h)
              refine steps2_cons ?_ ?_
              · intro f w1 hb hd Q hK
                have e19 : f 19 = .bool true := hd.1 rfl
                clear hd
                simp only [e19] at hK
                have hK := Lib.hid hK
                go_wp2
                exact hK.out _ _ rfl (Below.refl _ _) (fun h => by cases h)
              refine steps2_cons ?_ ?_
              · intro f w1 hb hd Q hK
                have e26 : f 26 = .slice (some ⟨g, o, none⟩) n c := hd.1 rfl
                have e27 : f 27 = .int .i64 m := hd.2.1 rfl
                have e19 : f 19 = .bool true := hd.2.2.1 rfl
                clear hd
                simp only [e26, e27, e19] at hK
                have hK := Lib.hid hK
                go_wp2
                exact hK.out _ _ rfl (Below.refl _ _) (fun h => by cases h)
              refine steps2_cons ?_ ?_
              · intro f w1 hb hd Q hK
                have e28 : f 28 = .pointer (some ⟨g, o + m * 2, none⟩) := hd.1 rfl
                have e19 : f 19 = .bool true := hd.2.1 rfl
                clear hd
                simp only [e28, e19] at hK
                have hK := Lib.hid hK
                go_wp2
                exact hK.out _ _ rfl (Below.refl _ _) (fun h => by cases h)
              refine steps2_cons ?_ ?_
              · intro f w1 hb hd Q hK
                have e29 : f 29 = .pointer (some ⟨g, o + m * 2, none⟩) := hd.1 rfl
                have e19 : f 19 = .bool true := hd.2.1 rfl
                clear hd
                simp only [e29, e19] at hK
                have hK := Lib.hid hK
                have c0 := (hb.cell (p := ⟨g, o + m * 2, none⟩) hg).trans cx
                go_wp2
                exact hK.out _ _ rfl (Below.refl _ _) (fun h => by cases h)
              refine steps2_cons ?_ ?_
              · intro f w1 hb hd Q hK
                have e25 : f 25 = .int .i64 z := hd.1 rfl
                have e30 : f 30 = .int .i64 x := hd.2.1 rfl
                have e19 : f 19 = .bool true := hd.2.2.1 rfl
                clear hd
                simp only [e25, e30, e19] at hK
                have hK := Lib.hid hK
                go_wp2
                exact hK.out _ _ rfl (Below.refl _ _) (fun h => by cases h)
              refine steps2_cons ?_ ?_
              · intro f w1 hb hd Q hK
                have e19 : f 19 = .bool true := hd.1 rfl
                have e31 : f 31 = .bool true := hd.2.1 rfl
                have e16 : f 16 = .bool false := hd.2.2.1 rfl
                clear hd
                simp only [e19, e31, e16] at hK
                have hK := Lib.hid hK
                go_wp2
                exact hK.out _ _ rfl (Below.refl _ _) (fun h => by cases h)
              refine steps2_cons ?_ ?_
              · intro f w1 hb hd Q hK
                have e16 : f 16 = .bool false := hd.1 rfl
                have e32 : f 32 = .bool true := hd.2.1 rfl
                clear hd
                simp only [e16, e32] at hK
                have hK := Lib.hid hK
                go_wp2
                exact hK.out _ _ rfl (Below.refl _ _) (fun h => by cases h)
              trivial
            · intro f w1 hb2 hf hne
              refine wpList_nil ?_
              have d33 : f 33 = .bool true := hf 23 _ _ (by decide) rfl rfl
              clear hf hne
              simp only [d33]
              clear d33
              have hb9 := hb.trans (hb2.mono hb.size)
              go_wp2
              go_returns
              exact ⟨by rw [hf.out]; rfl, hb9⟩
end Go.Proofs.YtiimojhdpmkeoaaGreat
