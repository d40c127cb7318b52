/- The walks of cmp.Compare, of vector's right, of dots' right. -/
import Derived.Test.YtdgaoljobpneaaaRows
import Derived.Test.YtdgaoljobpneaaaMem
import Derived.Test.YtdgaoljobpneaaaRk
import Derived.WalkKit
import Derived.WalkSpells
import Derived.WalkLawsBesides
import Derived.RegionTactic
import Derived.ChangeAlike
import Derived.BigRegion
import Derived.Handy
import Derived.Lib.Hide
import Derived.LoopTactic
import Derived.Deep.RegionHeld3
import Derived.Deep.RegionWith
import Derived.Deep.AppendLies
import Derived.Laws.OwnMore
namespace Go.Proofs.Ytdgaoljobpneaaa
open Go.RowKit
/-- m cells lie at p as f tells them -/
def RowAt (w : World) (p : Option Addr) (m : Nat) (f : Nat → Value) : Prop := 0 < m → ∃ g o, p = some ⟨g, o, none⟩ ∧ g < w.heap.size ∧ ∀ j, j < m → w.cell? ⟨g, o + j, none⟩ = some (f j)
theorem RowAt.below {w w' : World} {p : Option Addr} {m : Nat} {f : Nat → Value} (h : RowAt w p m f) (hb : Below w.heap.size w w') : RowAt w' p m f := fun hm => by
  obtain ⟨g, o, e, hg, hc⟩ := h hm
  exact ⟨g, o, e, Nat.lt_of_lt_of_le hg hb.size, fun j hj => (hb.cell (p := ⟨g, o + j, none⟩) hg).trans (hc j hj)⟩
theorem RowAt.drew {w : World} {p : Option Addr} {m : Nat} {f : Nat → Value} (h : RowAt w p m f) : RowAt w.drew p m f := h
theorem blk2 {w : World} {g : Nat} {t : TypeId} {x y : Value} (h : Blk w g t #[x, y]) : w.cell? ⟨g, 0, none⟩ = some x ∧ w.cell? ⟨g, 1, none⟩ = some y := ⟨h.cell 0, h.cell 1⟩
/-- dots: parts' numbers, two a dot -/
def DotsAt (w : World) (p : Option Addr) (n : Nat) (D : Nat → Int) : Prop := RowAt w p (2 * n) (fun j => .int .i64 (D j))
def BytesAt (w : World) (p : Option Addr) (n : Nat) (b : Nat → Int) : Prop := RowAt w p n (fun j => .int .u8 (b j))
theorem DotsAt.below {w w' : World} {p : Option Addr} {n : Nat} {D : Nat → Int} (h : DotsAt w p n D) (hb : Below w.heap.size w w') : DotsAt w' p n D := RowAt.below h hb
theorem BytesAt.below {w w' : World} {p : Option Addr} {n : Nat} {b : Nat → Int} (h : BytesAt w p n b) (hb : Below w.heap.size w w') : BytesAt w' p n b := RowAt.below h hb
def cmpI (a b : Int) : Int := if a < b then -1 else if b < a then 1 else 0
set_option maxHeartbeats 1000000 in
theorem compare_c (a b : Int) (w : World) : Calls Try.prog 113 #[.int .i64 a, .int .i64 b] w fun e w' => e = .returned (.int .i64 (cmpI a b)) ∧ w' = w := by
  go_enter Try.func113, Try.ntmps113
  by_cases h1 : a < b
  · have h3 : cmpI a b = -1 := if_pos h1
    rw [h3]
    clear h3
    go_wp2
    go_returns
    exact ⟨rfl, rfl⟩
  · by_cases h2 : b < a
    · have h3 : cmpI a b = 1 := by unfold cmpI; rw [if_neg h1, if_pos h2]
      rw [h3]
      clear h3
      go_wp2
      go_returns
      exact ⟨rfl, rfl⟩
    · have h3 : cmpI a b = 0 := by unfold cmpI; rw [if_neg h1, if_neg h2]
      rw [h3]
      clear h3
      go_wp2
      go_returns
      exact ⟨rfl, rfl⟩
/-- is a dot? -/
def okD (c s : Int) : Bool := decide (1 ≤ c ∧ c ≤ 8 ∧ 1 ≤ s ∧ s ≤ 1073741824)
set_option maxHeartbeats 1000000 in
theorem right_c (c s : Int) (w : World) : Calls Try.prog 98 #[.agg #[.int .i64 c, .int .i64 s]] w fun e w' => e = .returned (.bool (okD c s)) ∧ Below w.heap.size w w' := by
  go_enter Try.func98, Try.ntmps98
  go_wp2
  all_goals
    go_returns
    refine ⟨?_, by go_grown⟩
    first
      | (rw [show okD c s = true from decide_eq_true (by omega)]; rfl)
      | (rw [show okD c s = false from decide_eq_false (by omega)]; rfl)
      | (rw [show okD c s = decide (s ≤ 1073741824) from decide_eq_decide.2 ⟨fun h => by omega, fun h => by omega⟩]; rfl)
def dr1L (x y : Int) : List (Value → World → Prop) := [
  Eq1 (.agg #[.int .i64 x, .int .i64 y]),
  Eq1 (.bool false),
  Eq1 (.bool true),
  Eq1 (.bool true),
  Eq1 (undef),
  Eq1 (undef),
  Eq1 (undef),
  Eq1 (undef),
  Eq1 (undef),
  Eq1 (undef),
  Eq1 (undef),
  Eq1 (undef),
  Eq1 (undef),
  Eq1 (undef),
  Eq1 (undef),
  Eq1 (undef),
  Eq1 (undef),
  Eq1 (.bool true)]
theorem dr1S (x y : Int) : ∀ j x' q q', (dr1L x y).getD j (fun _ _ => True) x' q → Below q.heap.size q q' → (dr1L x y).getD j (fun _ _ => True) x' q' := by
  refine sta_all _ ?_
  simp only [dr1L, List.mem_cons, forall_eq_or_imp, List.not_mem_nil, false_implies, implies_true, and_true]
  exact ⟨sta_eq _, sta_eq _, sta_eq _, sta_eq _, sta_eq _, sta_eq _, sta_eq _, sta_eq _, sta_eq _, sta_eq _, sta_eq _, sta_eq _, sta_eq _, sta_eq _, sta_eq _, sta_eq _, sta_eq _, sta_eq _⟩
def dr2L (x y : Int) (m : Nat) : List (Value → World → Prop) := [
  Eq1 (.agg #[.int .i64 x, .int .i64 y]),
  Eq1 (.bool true),
  Eq1 (.bool false),
  Eq1 (.bool false),
  Eq1 (.int .i64 m),
  Eq1 (.bool false),
  Eq1 (.bool false),
  Eq1 (undef),
  Eq1 (undef),
  Eq1 (undef),
  Eq1 (undef),
  Eq1 (undef),
  Eq1 (undef),
  Eq1 (undef),
  Eq1 (undef),
  Eq1 (undef),
  Eq1 (.bool false),
  Eq1 (.bool false)]
theorem dr2S (x y : Int) (m : Nat) : ∀ j x' q q', (dr2L x y m).getD j (fun _ _ => True) x' q → Below q.heap.size q q' → (dr2L x y m).getD j (fun _ _ => True) x' q' := by
  refine sta_all _ ?_
  simp only [dr2L, List.mem_cons, forall_eq_or_imp, List.not_mem_nil, false_implies, implies_true, and_true]
  exact ⟨sta_eq _, sta_eq _, sta_eq _, sta_eq _, sta_eq _, sta_eq _, sta_eq _, sta_eq _, sta_eq _, sta_eq _, sta_eq _, sta_eq _, sta_eq _, sta_eq _, sta_eq _, sta_eq _, sta_eq _, sta_eq _⟩
def dr3L (x y z : Int) (g o n c m k G : Nat) : List (Value → World → Prop) := [
  Eq1 (.agg #[.int .i64 x, .int .i64 y]),
  Eq1 (.bool true),
  Eq1 (.bool false),
  Eq1 (.bool false),
  Eq1 (.int .i64 m),
  Eq1 (.bool true),
  Eq1 (.bool true),
  Eq1 (.slice (some ⟨g, o, none⟩) n c),
  Eq1 (.int .i64 m),
  Eq1 (.int .i64 k),
  Eq1 (.pointer (some ⟨g, o + k * 2, none⟩)),
  Eq1 (.pointer (some ⟨g, o + k * 2, none⟩)),
  Eq1 (.int .i64 z),
  Eq1 (.pointer (some ⟨G, 0, none⟩)),
  Eq1 (.int .i64 x),
  Eq1 (.bool false),
  Eq1 (.bool false),
  Eq1 (.bool false)]
theorem dr3S (x y z : Int) (g o n c m k G : Nat) : ∀ j x' q q', (dr3L x y z g o n c m k G).getD j (fun _ _ => True) x' q → Below q.heap.size q q' → (dr3L x y z g o n c m k G).getD j (fun _ _ => True) x' q' := by
  refine sta_all _ ?_
  simp only [dr3L, List.mem_cons, forall_eq_or_imp, List.not_mem_nil, false_implies, implies_true, and_true]
  exact ⟨sta_eq _, sta_eq _, sta_eq _, sta_eq _, sta_eq _, sta_eq _, sta_eq _, sta_eq _, sta_eq _, sta_eq _, sta_eq _, sta_eq _, sta_eq _, sta_eq _, sta_eq _, sta_eq _, sta_eq _, sta_eq _⟩
def dr4L (x y z : Int) (g o n c m k G : Nat) : List (Value → World → Prop) := [
  Eq1 (.agg #[.int .i64 x, .int .i64 y]),
  Eq1 (.bool true),
  Eq1 (.bool false),
  Eq1 (.bool false),
  Eq1 (.int .i64 m),
  Eq1 (.bool true),
  Eq1 (.bool true),
  Eq1 (.slice (some ⟨g, o, none⟩) n c),
  Eq1 (.int .i64 m),
  Eq1 (.int .i64 k),
  Eq1 (.pointer (some ⟨g, o + k * 2, none⟩)),
  Eq1 (.pointer (some ⟨g, o + k * 2, none⟩)),
  Eq1 (.int .i64 z),
  Eq1 (.pointer (some ⟨G, 0, none⟩)),
  Eq1 (.int .i64 x),
  Eq1 (.bool true),
  Eq1 (.bool true),
  Eq1 (.bool true)]
theorem dr4S (x y z : Int) (g o n c m k G : Nat) : ∀ j x' q q', (dr4L x y z g o n c m k G).getD j (fun _ _ => True) x' q → Below q.heap.size q q' → (dr4L x y z g o n c m k G).getD j (fun _ _ => True) x' q' := by
  refine sta_all _ ?_
  simp only [dr4L, List.mem_cons, forall_eq_or_imp, List.not_mem_nil, false_implies, implies_true, and_true]
  exact ⟨sta_eq _, sta_eq _, sta_eq _, sta_eq _, sta_eq _, sta_eq _, sta_eq _, sta_eq _, sta_eq _, sta_eq _, sta_eq _, sta_eq _, sta_eq _, sta_eq _, sta_eq _, sta_eq _, sta_eq _, sta_eq _⟩
/-- are they a vector? -/
def RightD (n : Nat) (D : Nat → Int) : Prop := ∀ i, i < n → okD (D (i * 2)) (D (i * 2 + 1)) = true ∧ (0 < i → D ((i - 1) * 2) < D (i * 2))
instance (n : Nat) (D : Nat → Int) : Decidable (RightD n D) := inferInstanceAs (Decidable (∀ i, i < n → _))
def rightD (n : Nat) (D : Nat → Int) : Bool := decide (RightD n D)
set_option maxRecDepth 20000 in
set_option maxHeartbeats 2000000 in
theorem dotsRight_c (p : Option Addr) (n c : Nat) (D : Nat → Int) (hn : n ≤ 1000000) (w : World) (hD : DotsAt w p n D) : Calls Try.prog 97 #[.slice p n c] w fun e w' => e = .returned (.bool (rightD n D)) ∧ Below w.heap.size w w' := by
  go_enter Try.func97, Try.ntmps97
  go_wp2
  go_loopw [7] (fun i wr => ∃ m : Nat, m ≤ n ∧ i = .int .i64 m ∧ RightD m D ∧ Below w.heap.size w wr) (fun i _ => (n - intOf i).toNat)
  case atStart => exact ⟨0, by omega, rfl, fun i hi => by omega, Below.refl _ _⟩
  case round =>
    obtain ⟨m, hm, hi, hR, hb⟩ := hrel
    subst hi
    by_cases he : m = n
    · subst he
      have hf : rightD m D = true := decide_eq_true hR
      replace hf := Lib.hid hf
      clear hR hm
      go_wp2
      go_returns
      exact ⟨by rw [hf.out]; rfl, hb⟩
    · have hm0 : (0 : Int) ≤ (m : Int) := by omega
      have hm1 : (m : Int) < (n : Int) := by omega
      have hm2 : m < n := by omega
      clear hm he
      obtain ⟨g, o, rfl, hg, hc⟩ := (hD.below hb) (by omega)
      have c0 := hc (m * 2) (by omega)
      have c1 := hc (m * 2 + 1) (by omega)
      rw [← Nat.add_assoc] at c1
      have hpre : 0 < m → wr.cell? ⟨g, o + (m - 1) * 2, none⟩ = some (.int .i64 (D ((m - 1) * 2))) := fun h => hc ((m - 1) * 2) (by omega)
      clear hc hD
      have hnext : okD (D (m * 2)) (D (m * 2 + 1)) = true → (0 < m → D ((m - 1) * 2) < D (m * 2)) → RightD (m + 1) D := fun h1 h2 i hi => by
        rcases Nat.lt_or_ge i m with h | h
        · exact hR i h
        · obtain rfl : i = m := by omega
          exact ⟨h1, h2⟩
      have hstop : ¬ (okD (D (m * 2)) (D (m * 2 + 1)) = true ∧ (0 < m → D ((m - 1) * 2) < D (m * 2))) → rightD n D = false := fun h => decide_eq_false fun hr => h (hr m hm2)
      have hrt := right_c (D (m * 2)) (D (m * 2 + 1))
      replace hnext := Lib.hid hnext
      replace hstop := Lib.hid hstop
      replace hpre := Lib.hid hpre
      clear hR
      go_wp2
      clear c0 c1
      refine at_world (fun W0 hW => ?_)
      have hG : Blk W0 wr.heap.size 86 #[.int .i64 (D (m * 2)), .int .i64 (D (m * 2 + 1))] := by rw [hW]; exact Blk.new _ _ _
      have hb0 : Below w.heap.size w W0 := by rw [hW]; exact hb.alloc hb.size _
      have hg0 : g < W0.heap.size := by rw [hW]; simp; omega
      replace hpre : 0 < m → W0.cell? ⟨g, o + (m - 1) * 2, none⟩ = some (.int .i64 (D ((m - 1) * 2))) := fun h => by
        rw [hW]
        exact (((Below.refl wr.heap.size wr).alloc (Nat.le_refl _) _).cell (p := ⟨g, o + (m - 1) * 2, none⟩) hg).trans (hpre.out h)
      clear hW hb hg
      generalize wr.heap.size = G at *
      generalize D (m * 2) = x at *
      generalize D (m * 2 + 1) = y at *
      cases hok : okD x y
      · have hf := hstop.out (fun h => by rw [hok] at h; cases h.1)
        rw [hok] at hrt
        replace hf := Lib.hid hf
        replace hrt := Lib.hid hrt
        clear hpre hnext hstop hok
        refine wp_region_grow2 18 (fun k => (Nat.ble 12 k && Nat.ble k 29)) _ [] (fun j x' q => (dr1L x y).getD j (fun _ _ => True) x' q) (fun _ => false) (fun f => #[.slice (some ⟨g, o, none⟩) n c, undef, u2, .int .i64 m, .pointer (some ⟨G, 0, none⟩), .slice (some ⟨g, o, none⟩) n c, .int .i64 n, .int .i64 m, .bool true, .int .i64 m, .pointer (some ⟨g, o + m * 2, none⟩), .agg #[.int .i64 x, .int .i64 y], f 12, f 13, f 14, f 15, f 16, f 17, f 18, f 19, f 20, f 21, f 22, f 23, f 24, f 25, f 26, f 27, f 28, f 29, u30]) (fun f => rfl) (by kernel_rfl) (by kernel_rfl) (by kernel_rfl) (by kernel_rfl) (by kernel_rfl) (dr1S _ _) (fun _ _ _ h => by cases h) ?_ ?_
        · refine steps2_cons ?_ ?_
          · intro f w1 hb hd Q hK
            clear hd
            have hK := Lib.hid hK
            obtain ⟨c0, c1⟩ := blk2 (hG.below hb)
            go_wp2
            exact hK.out _ _ rfl (Below.refl _ _) (fun h => by cases h)
          refine steps2_cons ?_ ?_
          · intro f w1 hb hd Q hK
            have e12 : f 12 = .agg #[.int .i64 x, .int .i64 y] := hd.1 rfl
            clear hd
            simp only [e12] at hK
            have hK := Lib.hid hK
            go_wp2_with fail
            refine (hrt.out _).mono ?_
            rintro e w2 ⟨rfl, hb2⟩
            go_wp2
            exact hK.out _ _ rfl hb2 (fun h => by cases h)
          refine steps2_cons ?_ ?_
          · intro f w1 hb hd Q hK
            have e13 : f 13 = .bool false := hd.1 rfl
            clear hd
            simp only [e13] at hK
            have hK := Lib.hid hK
            go_wp2
            exact hK.out _ _ rfl (Below.refl _ _) (fun h => by cases h)
          refine steps2_cons ?_ ?_
          · intro f w1 hb hd Q hK
            have e14 : f 14 = .bool true := hd.1 rfl
            clear hd
            simp only [e14] at hK
            have hK := Lib.hid hK
            go_wp2
            exact hK.out _ _ rfl (Below.refl _ _) (fun h => by cases h)
          refine steps2_cons ?_ ?_
          · intro f w1 hb hd Q hK
            have e15 : f 15 = .bool true := hd.1 rfl
            clear hd
            simp only [e15] at hK
            have hK := Lib.hid hK
            go_wp2
            exact hK.out _ _ rfl (Below.refl _ _) (fun h => by cases h)
          refine steps2_cons ?_ ?_
          · intro f w1 hb hd Q hK
            have e16 : f 16 = undef := hd.1 rfl
            have e15 : f 15 = .bool true := hd.2.1 rfl
            clear hd
            simp only [e16, e15] at hK
            have hK := Lib.hid hK
            go_wp2
            exact hK.out _ _ rfl (Below.refl _ _) (fun h => by cases h)
          refine steps2_cons ?_ ?_
          · intro f w1 hb hd Q hK
            have e17 : f 17 = undef := hd.1 rfl
            have e15 : f 15 = .bool true := hd.2.1 rfl
            clear hd
            simp only [e17, e15] at hK
            have hK := Lib.hid hK
            go_wp2
            exact hK.out _ _ rfl (Below.refl _ _) (fun h => by cases h)
          refine steps2_cons ?_ ?_
          · intro f w1 hb hd Q hK
            have e18 : f 18 = .tuple #[] := hd.1 rfl
            clear hd
            simp only [e18] at hK
            have hK := Lib.hid hK
            go_wp2
            exact hK.out _ _ rfl (Below.refl _ _) (fun h => by cases h)
          refine steps2_cons ?_ ?_
          · intro f w1 hb hd Q hK
            have e18 : f 18 = .tuple #[] := hd.1 rfl
            clear hd
            simp only [e18] at hK
            have hK := Lib.hid hK
            go_wp2
            exact hK.out _ _ rfl (Below.refl _ _) (fun h => by cases h)
          refine steps2_cons ?_ ?_
          · intro f w1 hb hd Q hK
            have e20 : f 20 = undef := hd.1 rfl
            have e18 : f 18 = .tuple #[] := hd.2.1 rfl
            clear hd
            simp only [e20, e18] at hK
            have hK := Lib.hid hK
            go_wp2
            exact hK.out _ _ rfl (Below.refl _ _) (fun h => by cases h)
          refine steps2_cons ?_ ?_
          · intro f w1 hb hd Q hK
            have e19 : f 19 = undef := hd.1 rfl
            have e21 : f 21 = undef := hd.2.1 rfl
            have e18 : f 18 = .tuple #[] := hd.2.2.1 rfl
            clear hd
            simp only [e19, e21, e18] at hK
            have hK := Lib.hid hK
            go_wp2
            exact hK.out _ _ rfl (Below.refl _ _) (fun h => by cases h)
          refine steps2_cons ?_ ?_
          · intro f w1 hb hd Q hK
            have e22 : f 22 = undef := hd.1 rfl
            have e18 : f 18 = .tuple #[] := hd.2.1 rfl
            clear hd
            simp only [e22, e18] at hK
            have hK := Lib.hid hK
            go_wp2
            exact hK.out _ _ rfl (Below.refl _ _) (fun h => by cases h)
          refine steps2_cons ?_ ?_
          · intro f w1 hb hd Q hK
            have e23 : f 23 = undef := hd.1 rfl
            have e18 : f 18 = .tuple #[] := hd.2.1 rfl
            clear hd
            simp only [e23, e18] at hK
            have hK := Lib.hid hK
            go_wp2
            exact hK.out _ _ rfl (Below.refl _ _) (fun h => by cases h)
          refine steps2_cons ?_ ?_
          · intro f w1 hb hd Q hK
            have e18 : f 18 = .tuple #[] := hd.1 rfl
            clear hd
            simp only [e18] at hK
            have hK := Lib.hid hK
            go_wp2
            exact hK.out _ _ rfl (Below.refl _ _) (fun h => by cases h)
          refine steps2_cons ?_ ?_
          · intro f w1 hb hd Q hK
            have e25 : f 25 = undef := hd.1 rfl
            have e18 : f 18 = .tuple #[] := hd.2.1 rfl
            clear hd
            simp only [e25, e18] at hK
            have hK := Lib.hid hK
            go_wp2
            exact hK.out _ _ rfl (Below.refl _ _) (fun h => by cases h)
          refine steps2_cons ?_ ?_
          · intro f w1 hb hd Q hK
            have e24 : f 24 = undef := hd.1 rfl
            have e26 : f 26 = undef := hd.2.1 rfl
            have e18 : f 18 = .tuple #[] := hd.2.2.1 rfl
            clear hd
            simp only [e24, e26, e18] at hK
            have hK := Lib.hid hK
            go_wp2
            exact hK.out _ _ rfl (Below.refl _ _) (fun h => by cases h)
          refine steps2_cons ?_ ?_
          · intro f w1 hb hd Q hK
            have e18 : f 18 = undef := hd.1 rfl
            have e27 : f 27 = undef := hd.2.1 rfl
            have e15 : f 15 = .bool true := hd.2.2.1 rfl
            clear hd
            simp only [e18, e27, e15] at hK
            have hK := Lib.hid hK
            go_wp2
            exact hK.out _ _ rfl (Below.refl _ _) (fun h => by cases h)
          refine steps2_cons ?_ ?_
          · intro f w1 hb hd Q hK
            have e15 : f 15 = .bool true := hd.1 rfl
            have e28 : f 28 = undef := hd.2.1 rfl
            clear hd
            simp only [e15, e28] at hK
            have hK := Lib.hid hK
            go_wp2
            exact hK.out _ _ rfl (Below.refl _ _) (fun h => by cases h)
          trivial
        · intro f w1 hb hf hne
          refine wpList_nil ?_
          have d29 : f 29 = .bool true := hf 17 _ _ (by decide) rfl rfl
          clear hf hne
          simp only [d29]
          clear d29
          go_wp2
          go_returns
          exact ⟨by rw [hf.out]; rfl, hb0.trans (hb.mono hb0.size)⟩
      · rw [hok] at hrt
        replace hrt := Lib.hid hrt
        by_cases hm : m = 0
        · have hm3 : ¬ 0 < (m : Int) := by omega
          have hm4 : ¬ 0 < m := by omega
          have hn := Lib.hid (hnext.out hok (fun h => by omega))
          clear hpre hnext hstop hok hm
          refine wp_region_grow2 18 (fun k => (Nat.ble 12 k && Nat.ble k 29)) _ [] (fun j x' q => (dr2L x y m).getD j (fun _ _ => True) x' q) (fun _ => false) (fun f => #[.slice (some ⟨g, o, none⟩) n c, undef, u2, .int .i64 m, .pointer (some ⟨G, 0, none⟩), .slice (some ⟨g, o, none⟩) n c, .int .i64 n, .int .i64 m, .bool true, .int .i64 m, .pointer (some ⟨g, o + m * 2, none⟩), .agg #[.int .i64 x, .int .i64 y], f 12, f 13, f 14, f 15, f 16, f 17, f 18, f 19, f 20, f 21, f 22, f 23, f 24, f 25, f 26, f 27, f 28, f 29, u30]) (fun f => rfl) (by kernel_rfl) (by kernel_rfl) (by kernel_rfl) (by kernel_rfl) (by kernel_rfl) (dr2S _ _ _) (fun _ _ _ h => by cases h) ?_ ?_
          · refine steps2_cons ?_ ?_
            · intro f w1 hb hd Q hK
              clear hd
              have hK := Lib.hid hK
              obtain ⟨c0, c1⟩ := blk2 (hG.below hb)
              go_wp2
              exact hK.out _ _ rfl (Below.refl _ _) (fun h => by cases h)
            refine steps2_cons ?_ ?_
            · intro f w1 hb hd Q hK
              have e12 : f 12 = .agg #[.int .i64 x, .int .i64 y] := hd.1 rfl
              clear hd
              simp only [e12] at hK
              have hK := Lib.hid hK
              go_wp2_with fail
              refine (hrt.out _).mono ?_
              rintro e w2 ⟨rfl, hb2⟩
              go_wp2
              exact hK.out _ _ rfl hb2 (fun h => by cases h)
            refine steps2_cons ?_ ?_
            · intro f w1 hb hd Q hK
              have e13 : f 13 = .bool true := hd.1 rfl
              clear hd
              simp only [e13] at hK
              have hK := Lib.hid hK
              go_wp2
              exact hK.out _ _ rfl (Below.refl _ _) (fun h => by cases h)
            refine steps2_cons ?_ ?_
            · intro f w1 hb hd Q hK
              have e14 : f 14 = .bool false := hd.1 rfl
              clear hd
              simp only [e14] at hK
              have hK := Lib.hid hK
              go_wp2
              exact hK.out _ _ rfl (Below.refl _ _) (fun h => by cases h)
            refine steps2_cons ?_ ?_
            · intro f w1 hb hd Q hK
              have e15 : f 15 = .bool false := hd.1 rfl
              clear hd
              simp only [e15] at hK
              have hK := Lib.hid hK
              go_wp2
              exact hK.out _ _ rfl (Below.refl _ _) (fun h => by cases h)
            refine steps2_cons ?_ ?_
            · intro f w1 hb hd Q hK
              have e16 : f 16 = .int .i64 m := hd.1 rfl
              have e15 : f 15 = .bool false := hd.2.1 rfl
              clear hd
              simp only [e16, e15] at hK
              have hK := Lib.hid hK
              go_wp2
              exact hK.out _ _ rfl (Below.refl _ _) (fun h => by cases h)
            refine steps2_cons ?_ ?_
            · intro f w1 hb hd Q hK
              have e17 : f 17 = .bool false := hd.1 rfl
              have e15 : f 15 = .bool false := hd.2.1 rfl
              clear hd
              simp only [e17, e15] at hK
              have hK := Lib.hid hK
              go_wp2
              exact hK.out _ _ rfl (Below.refl _ _) (fun h => by cases h)
            refine steps2_cons ?_ ?_
            · intro f w1 hb hd Q hK
              have e18 : f 18 = .bool false := hd.1 rfl
              clear hd
              simp only [e18] at hK
              have hK := Lib.hid hK
              go_wp2
              exact hK.out _ _ rfl (Below.refl _ _) (fun h => by cases h)
            refine steps2_cons ?_ ?_
            · intro f w1 hb hd Q hK
              have e18 : f 18 = .bool false := hd.1 rfl
              clear hd
              simp only [e18] at hK
              have hK := Lib.hid hK
              go_wp2
              exact hK.out _ _ rfl (Below.refl _ _) (fun h => by cases h)
            refine steps2_cons ?_ ?_
            · intro f w1 hb hd Q hK
              have e20 : f 20 = undef := hd.1 rfl
              have e18 : f 18 = .bool false := hd.2.1 rfl
              clear hd
              simp only [e20, e18] at hK
              have hK := Lib.hid hK
              go_wp2
              exact hK.out _ _ rfl (Below.refl _ _) (fun h => by cases h)
            refine steps2_cons ?_ ?_
            · intro f w1 hb hd Q hK
              have e19 : f 19 = undef := hd.1 rfl
              have e21 : f 21 = undef := hd.2.1 rfl
              have e18 : f 18 = .bool false := hd.2.2.1 rfl
              clear hd
              simp only [e19, e21, e18] at hK
              have hK := Lib.hid hK
              go_wp2
              exact hK.out _ _ rfl (Below.refl _ _) (fun h => by cases h)
            refine steps2_cons ?_ ?_
            · intro f w1 hb hd Q hK
              have e22 : f 22 = undef := hd.1 rfl
              have e18 : f 18 = .bool false := hd.2.1 rfl
              clear hd
              simp only [e22, e18] at hK
              have hK := Lib.hid hK
              go_wp2
              exact hK.out _ _ rfl (Below.refl _ _) (fun h => by cases h)
            refine steps2_cons ?_ ?_
            · intro f w1 hb hd Q hK
              have e23 : f 23 = undef := hd.1 rfl
              have e18 : f 18 = .bool false := hd.2.1 rfl
              clear hd
              simp only [e23, e18] at hK
              have hK := Lib.hid hK
              go_wp2
              exact hK.out _ _ rfl (Below.refl _ _) (fun h => by cases h)
            refine steps2_cons ?_ ?_
            · intro f w1 hb hd Q hK
              have e18 : f 18 = .bool false := hd.1 rfl
              clear hd
              simp only [e18] at hK
              have hK := Lib.hid hK
              go_wp2
              exact hK.out _ _ rfl (Below.refl _ _) (fun h => by cases h)
            refine steps2_cons ?_ ?_
            · intro f w1 hb hd Q hK
              have e25 : f 25 = undef := hd.1 rfl
              have e18 : f 18 = .bool false := hd.2.1 rfl
              clear hd
              simp only [e25, e18] at hK
              have hK := Lib.hid hK
              go_wp2
              exact hK.out _ _ rfl (Below.refl _ _) (fun h => by cases h)
            refine steps2_cons ?_ ?_
            · intro f w1 hb hd Q hK
              have e24 : f 24 = undef := hd.1 rfl
              have e26 : f 26 = undef := hd.2.1 rfl
              have e18 : f 18 = .bool false := hd.2.2.1 rfl
              clear hd
              simp only [e24, e26, e18] at hK
              have hK := Lib.hid hK
              go_wp2
              exact hK.out _ _ rfl (Below.refl _ _) (fun h => by cases h)
            refine steps2_cons ?_ ?_
            · intro f w1 hb hd Q hK
              have e18 : f 18 = .bool false := hd.1 rfl
              have e27 : f 27 = undef := hd.2.1 rfl
              have e15 : f 15 = .bool false := hd.2.2.1 rfl
              clear hd
              simp only [e18, e27, e15] at hK
              have hK := Lib.hid hK
              go_wp2
              exact hK.out _ _ rfl (Below.refl _ _) (fun h => by cases h)
            refine steps2_cons ?_ ?_
            · intro f w1 hb hd Q hK
              have e15 : f 15 = .bool false := hd.1 rfl
              have e28 : f 28 = .bool false := hd.2.1 rfl
              clear hd
              simp only [e15, e28] at hK
              have hK := Lib.hid hK
              go_wp2
              exact hK.out _ _ rfl (Below.refl _ _) (fun h => by cases h)
            trivial
          · intro f w1 hb hf hne
            refine wpList_nil ?_
            have d29 : f 29 = .bool false := hf 17 _ _ (by decide) rfl rfl
            clear hf hne
            simp only [d29]
            clear d29
            go_wp2
            exact ⟨⟨m + 1, by omega, rfl, hn.out, hb0.trans (hb.mono hb0.size)⟩, by simp [intOf]; omega⟩
        · have hm3 : 0 < (m : Int) := by omega
          have hm4 : 0 < m := by omega
          obtain ⟨k, hk⟩ : ∃ k, k = m - 1 := ⟨_, rfl⟩
          have hk1 : (m : Int) - 1 = (k : Int) := by omega
          have hk0 : (0 : Int) ≤ (k : Int) := by omega
          have hk2 : (k : Int) < (n : Int) := by omega
          have cp := hpre (by omega)
          rw [← hk] at cp hnext hstop
          by_cases hlt : D (k * 2) < x
          · have hn := Lib.hid (hnext.out hok (fun h => hlt))
            have hz : ¬ x ≤ D (k * 2) := by omega
            generalize D (k * 2) = z at *
            clear hpre hnext hstop hok hm hlt hk
            refine wp_region_grow2 18 (fun k => (Nat.ble 12 k && Nat.ble k 29)) _ [] (fun j x' q => (dr3L x y z g o n c m k G).getD j (fun _ _ => True) x' q) (fun _ => false) (fun f => #[.slice (some ⟨g, o, none⟩) n c, undef, u2, .int .i64 m, .pointer (some ⟨G, 0, none⟩), .slice (some ⟨g, o, none⟩) n c, .int .i64 n, .int .i64 m, .bool true, .int .i64 m, .pointer (some ⟨g, o + m * 2, none⟩), .agg #[.int .i64 x, .int .i64 y], f 12, f 13, f 14, f 15, f 16, f 17, f 18, f 19, f 20, f 21, f 22, f 23, f 24, f 25, f 26, f 27, f 28, f 29, u30]) (fun f => rfl) (by kernel_rfl) (by kernel_rfl) (by kernel_rfl) (by kernel_rfl) (by kernel_rfl) (dr3S _ _ _ _ _ _ _ _ _ _) (fun _ _ _ h => by cases h) ?_ ?_
            · refine steps2_cons ?_ ?_
              · intro f w1 hb hd Q hK
                clear hd
                have hK := Lib.hid hK
                obtain ⟨c0, c1⟩ := blk2 (hG.below hb)
                go_wp2
                exact hK.out _ _ rfl (Below.refl _ _) (fun h => by cases h)
              refine steps2_cons ?_ ?_
              · intro f w1 hb hd Q hK
                have e12 : f 12 = .agg #[.int .i64 x, .int .i64 y] := hd.1 rfl
                clear hd
                simp only [e12] at hK
                have hK := Lib.hid hK
                go_wp2_with fail
                refine (hrt.out _).mono ?_
                rintro e w2 ⟨rfl, hb2⟩
                go_wp2
                exact hK.out _ _ rfl hb2 (fun h => by cases h)
              refine steps2_cons ?_ ?_
              · intro f w1 hb hd Q hK
                have e13 : f 13 = .bool true := hd.1 rfl
                clear hd
                simp only [e13] at hK
                have hK := Lib.hid hK
                go_wp2
                exact hK.out _ _ rfl (Below.refl _ _) (fun h => by cases h)
              refine steps2_cons ?_ ?_
              · intro f w1 hb hd Q hK
                have e14 : f 14 = .bool false := hd.1 rfl
                clear hd
                simp only [e14] at hK
                have hK := Lib.hid hK
                go_wp2
                exact hK.out _ _ rfl (Below.refl _ _) (fun h => by cases h)
              refine steps2_cons ?_ ?_
              · intro f w1 hb hd Q hK
                have e15 : f 15 = .bool false := hd.1 rfl
                clear hd
                simp only [e15] at hK
                have hK := Lib.hid hK
                go_wp2
                exact hK.out _ _ rfl (Below.refl _ _) (fun h => by cases h)
              refine steps2_cons ?_ ?_
              · intro f w1 hb hd Q hK
                have e16 : f 16 = .int .i64 m := hd.1 rfl
                have e15 : f 15 = .bool false := hd.2.1 rfl
                clear hd
                simp only [e16, e15] at hK
                have hK := Lib.hid hK
                go_wp2
                exact hK.out _ _ rfl (Below.refl _ _) (fun h => by cases h)
              refine steps2_cons ?_ ?_
              · intro f w1 hb hd Q hK
                have e17 : f 17 = .bool true := hd.1 rfl
                have e15 : f 15 = .bool false := hd.2.1 rfl
                clear hd
                simp only [e17, e15] at hK
                have hK := Lib.hid hK
                go_wp2
                exact hK.out _ _ rfl (Below.refl _ _) (fun h => by cases h)
              refine steps2_cons ?_ ?_
              · intro f w1 hb hd Q hK
                have e18 : f 18 = .bool true := hd.1 rfl
                clear hd
                simp only [e18] at hK
                have hK := Lib.hid hK
                go_wp2
                exact hK.out _ _ rfl (Below.refl _ _) (fun h => by cases h)
              refine steps2_cons ?_ ?_
              · intro f w1 hb hd Q hK
                have e18 : f 18 = .bool true := hd.1 rfl
                clear hd
                simp only [e18] at hK
                have hK := Lib.hid hK
                go_wp2
                exact hK.out _ _ rfl (Below.refl _ _) (fun h => by cases h)
              refine steps2_cons ?_ ?_
              · intro f w1 hb hd Q hK
                have e20 : f 20 = .int .i64 m := hd.1 rfl
                have e18 : f 18 = .bool true := hd.2.1 rfl
                clear hd
                simp only [e20, e18] at hK
                have hK := Lib.hid hK
                go_wp2
                exact hK.out _ _ rfl (Below.refl _ _) (fun h => by cases h)
              refine steps2_cons ?_ ?_
              · intro f w1 hb hd Q hK
                have e19 : f 19 = .slice (some ⟨g, o, none⟩) n c := hd.1 rfl
                have e21 : f 21 = .int .i64 k := hd.2.1 rfl
                have e18 : f 18 = .bool true := hd.2.2.1 rfl
                clear hd
                simp only [e19, e21, e18] at hK
                have hK := Lib.hid hK
                go_wp2
                exact hK.out _ _ rfl (Below.refl _ _) (fun h => by cases h)
              refine steps2_cons ?_ ?_
              · intro f w1 hb hd Q hK
                have e22 : f 22 = .pointer (some ⟨g, o + k * 2, none⟩) := hd.1 rfl
                have e18 : f 18 = .bool true := hd.2.1 rfl
                clear hd
                simp only [e22, e18] at hK
                have hK := Lib.hid hK
                go_wp2
                exact hK.out _ _ rfl (Below.refl _ _) (fun h => by cases h)
              refine steps2_cons ?_ ?_
              · intro f w1 hb hd Q hK
                have e23 : f 23 = .pointer (some ⟨g, o + k * 2, none⟩) := hd.1 rfl
                have e18 : f 18 = .bool true := hd.2.1 rfl
                clear hd
                simp only [e23, e18] at hK
                have hK := Lib.hid hK
                have c0 := (hb.cell (p := ⟨g, o + k * 2, none⟩) hg0).trans cp
                go_wp2
                exact hK.out _ _ rfl (Below.refl _ _) (fun h => by cases h)
              refine steps2_cons ?_ ?_
              · intro f w1 hb hd Q hK
                have e18 : f 18 = .bool true := hd.1 rfl
                clear hd
                simp only [e18] at hK
                have hK := Lib.hid hK
                go_wp2
                exact hK.out _ _ rfl (Below.refl _ _) (fun h => by cases h)
              refine steps2_cons ?_ ?_
              · intro f w1 hb hd Q hK
                have e25 : f 25 = .pointer (some ⟨G, 0, none⟩) := hd.1 rfl
                have e18 : f 18 = .bool true := hd.2.1 rfl
                clear hd
                simp only [e25, e18] at hK
                have hK := Lib.hid hK
                have c0 := (hG.below hb).cell 0
                simp only [List.getElem?_toArray, List.getElem?_cons_zero] at c0
                go_wp2
                exact hK.out _ _ rfl (Below.refl _ _) (fun h => by cases h)
              refine steps2_cons ?_ ?_
              · intro f w1 hb hd Q hK
                have e24 : f 24 = .int .i64 z := hd.1 rfl
                have e26 : f 26 = .int .i64 x := hd.2.1 rfl
                have e18 : f 18 = .bool true := hd.2.2.1 rfl
                clear hd
                simp only [e24, e26, e18] at hK
                have hK := Lib.hid hK
                go_wp2
                exact hK.out _ _ rfl (Below.refl _ _) (fun h => by cases h)
              refine steps2_cons ?_ ?_
              · intro f w1 hb hd Q hK
                have e18 : f 18 = .bool true := hd.1 rfl
                have e27 : f 27 = .bool false := hd.2.1 rfl
                have e15 : f 15 = .bool false := hd.2.2.1 rfl
                clear hd
                simp only [e18, e27, e15] at hK
                have hK := Lib.hid hK
                go_wp2
                exact hK.out _ _ rfl (Below.refl _ _) (fun h => by cases h)
              refine steps2_cons ?_ ?_
              · intro f w1 hb hd Q hK
                have e15 : f 15 = .bool false := hd.1 rfl
                have e28 : f 28 = .bool false := hd.2.1 rfl
                clear hd
                simp only [e15, e28] at hK
                have hK := Lib.hid hK
                go_wp2
                exact hK.out _ _ rfl (Below.refl _ _) (fun h => by cases h)
              trivial
            · intro f w1 hb hf hne
              refine wpList_nil ?_
              have d29 : f 29 = .bool false := hf 17 _ _ (by decide) rfl rfl
              clear hf hne
              simp only [d29]
              clear d29
              go_wp2
              exact ⟨⟨m + 1, by omega, rfl, hn.out, hb0.trans (hb.mono hb0.size)⟩, by simp [intOf]; omega⟩
          · have hf := Lib.hid (hstop.out (fun h => hlt (h.2 (by omega))))
            have hz : x ≤ D (k * 2) := by omega
            generalize D (k * 2) = z at *
            clear hpre hnext hstop hok hm hlt hk
            refine wp_region_grow2 18 (fun k => (Nat.ble 12 k && Nat.ble k 29)) _ [] (fun j x' q => (dr4L x y z g o n c m k G).getD j (fun _ _ => True) x' q) (fun _ => false) (fun f => #[.slice (some ⟨g, o, none⟩) n c, undef, u2, .int .i64 m, .pointer (some ⟨G, 0, none⟩), .slice (some ⟨g, o, none⟩) n c, .int .i64 n, .int .i64 m, .bool true, .int .i64 m, .pointer (some ⟨g, o + m * 2, none⟩), .agg #[.int .i64 x, .int .i64 y], f 12, f 13, f 14, f 15, f 16, f 17, f 18, f 19, f 20, f 21, f 22, f 23, f 24, f 25, f 26, f 27, f 28, f 29, u30]) (fun f => rfl) (by kernel_rfl) (by kernel_rfl) (by kernel_rfl) (by kernel_rfl) (by kernel_rfl) (dr4S _ _ _ _ _ _ _ _ _ _) (fun _ _ _ h => by cases h) ?_ ?_
            · refine steps2_cons ?_ ?_
              · intro f w1 hb hd Q hK
                clear hd
                have hK := Lib.hid hK
                obtain ⟨c0, c1⟩ := blk2 (hG.below hb)
                go_wp2
                exact hK.out _ _ rfl (Below.refl _ _) (fun h => by cases h)
              refine steps2_cons ?_ ?_
              · intro f w1 hb hd Q hK
                have e12 : f 12 = .agg #[.int .i64 x, .int .i64 y] := hd.1 rfl
                clear hd
                simp only [e12] at hK
                have hK := Lib.hid hK
                go_wp2_with fail
                refine (hrt.out _).mono ?_
                rintro e w2 ⟨rfl, hb2⟩
                go_wp2
                exact hK.out _ _ rfl hb2 (fun h => by cases h)
              refine steps2_cons ?_ ?_
              · intro f w1 hb hd Q hK
                have e13 : f 13 = .bool true := hd.1 rfl
                clear hd
                simp only [e13] at hK
                have hK := Lib.hid hK
                go_wp2
                exact hK.out _ _ rfl (Below.refl _ _) (fun h => by cases h)
              refine steps2_cons ?_ ?_
              · intro f w1 hb hd Q hK
                have e14 : f 14 = .bool false := hd.1 rfl
                clear hd
                simp only [e14] at hK
                have hK := Lib.hid hK
                go_wp2
                exact hK.out _ _ rfl (Below.refl _ _) (fun h => by cases h)
              refine steps2_cons ?_ ?_
              · intro f w1 hb hd Q hK
                have e15 : f 15 = .bool false := hd.1 rfl
                clear hd
                simp only [e15] at hK
                have hK := Lib.hid hK
                go_wp2
                exact hK.out _ _ rfl (Below.refl _ _) (fun h => by cases h)
              refine steps2_cons ?_ ?_
              · intro f w1 hb hd Q hK
                have e16 : f 16 = .int .i64 m := hd.1 rfl
                have e15 : f 15 = .bool false := hd.2.1 rfl
                clear hd
                simp only [e16, e15] at hK
                have hK := Lib.hid hK
                go_wp2
                exact hK.out _ _ rfl (Below.refl _ _) (fun h => by cases h)
              refine steps2_cons ?_ ?_
              · intro f w1 hb hd Q hK
                have e17 : f 17 = .bool true := hd.1 rfl
                have e15 : f 15 = .bool false := hd.2.1 rfl
                clear hd
                simp only [e17, e15] at hK
                have hK := Lib.hid hK
                go_wp2
                exact hK.out _ _ rfl (Below.refl _ _) (fun h => by cases h)
              refine steps2_cons ?_ ?_
              · intro f w1 hb hd Q hK
                have e18 : f 18 = .bool true := hd.1 rfl
                clear hd
                simp only [e18] at hK
                have hK := Lib.hid hK
                go_wp2
                exact hK.out _ _ rfl (Below.refl _ _) (fun h => by cases h)
              refine steps2_cons ?_ ?_
              · intro f w1 hb hd Q hK
                have e18 : f 18 = .bool true := hd.1 rfl
                clear hd
                simp only [e18] at hK
                have hK := Lib.hid hK
                go_wp2
                exact hK.out _ _ rfl (Below.refl _ _) (fun h => by cases h)
              refine steps2_cons ?_ ?_
              · intro f w1 hb hd Q hK
                have e20 : f 20 = .int .i64 m := hd.1 rfl
                have e18 : f 18 = .bool true := hd.2.1 rfl
                clear hd
                simp only [e20, e18] at hK
                have hK := Lib.hid hK
                go_wp2
                exact hK.out _ _ rfl (Below.refl _ _) (fun h => by cases h)
              refine steps2_cons ?_ ?_
              · intro f w1 hb hd Q hK
                have e19 : f 19 = .slice (some ⟨g, o, none⟩) n c := hd.1 rfl
                have e21 : f 21 = .int .i64 k := hd.2.1 rfl
                have e18 : f 18 = .bool true := hd.2.2.1 rfl
                clear hd
                simp only [e19, e21, e18] at hK
                have hK := Lib.hid hK
                go_wp2
                exact hK.out _ _ rfl (Below.refl _ _) (fun h => by cases h)
              refine steps2_cons ?_ ?_
              · intro f w1 hb hd Q hK
                have e22 : f 22 = .pointer (some ⟨g, o + k * 2, none⟩) := hd.1 rfl
                have e18 : f 18 = .bool true := hd.2.1 rfl
                clear hd
                simp only [e22, e18] at hK
                have hK := Lib.hid hK
                go_wp2
                exact hK.out _ _ rfl (Below.refl _ _) (fun h => by cases h)
              refine steps2_cons ?_ ?_
              · intro f w1 hb hd Q hK
                have e23 : f 23 = .pointer (some ⟨g, o + k * 2, none⟩) := hd.1 rfl
                have e18 : f 18 = .bool true := hd.2.1 rfl
                clear hd
                simp only [e23, e18] at hK
                have hK := Lib.hid hK
                have c0 := (hb.cell (p := ⟨g, o + k * 2, none⟩) hg0).trans cp
                go_wp2
                exact hK.out _ _ rfl (Below.refl _ _) (fun h => by cases h)
              refine steps2_cons ?_ ?_
              · intro f w1 hb hd Q hK
                have e18 : f 18 = .bool true := hd.1 rfl
                clear hd
                simp only [e18] at hK
                have hK := Lib.hid hK
                go_wp2
                exact hK.out _ _ rfl (Below.refl _ _) (fun h => by cases h)
              refine steps2_cons ?_ ?_
              · intro f w1 hb hd Q hK
                have e25 : f 25 = .pointer (some ⟨G, 0, none⟩) := hd.1 rfl
                have e18 : f 18 = .bool true := hd.2.1 rfl
                clear hd
                simp only [e25, e18] at hK
                have hK := Lib.hid hK
                have c0 := (hG.below hb).cell 0
                simp only [List.getElem?_toArray, List.getElem?_cons_zero] at c0
                go_wp2
                exact hK.out _ _ rfl (Below.refl _ _) (fun h => by cases h)
              refine steps2_cons ?_ ?_
              · intro f w1 hb hd Q hK
                have e24 : f 24 = .int .i64 z := hd.1 rfl
                have e26 : f 26 = .int .i64 x := hd.2.1 rfl
                have e18 : f 18 = .bool true := hd.2.2.1 rfl
                clear hd
                simp only [e24, e26, e18] at hK
                have hK := Lib.hid hK
                go_wp2
                exact hK.out _ _ rfl (Below.refl _ _) (fun h => by cases h)
              refine steps2_cons ?_ ?_
              · intro f w1 hb hd Q hK
                have e18 : f 18 = .bool true := hd.1 rfl
                have e27 : f 27 = .bool true := hd.2.1 rfl
                have e15 : f 15 = .bool false := hd.2.2.1 rfl
                clear hd
                simp only [e18, e27, e15] at hK
                have hK := Lib.hid hK
                go_wp2
                exact hK.out _ _ rfl (Below.refl _ _) (fun h => by cases h)
              refine steps2_cons ?_ ?_
              · intro f w1 hb hd Q hK
                have e15 : f 15 = .bool false := hd.1 rfl
                have e28 : f 28 = .bool true := hd.2.1 rfl
                clear hd
                simp only [e15, e28] at hK
                have hK := Lib.hid hK
                go_wp2
                exact hK.out _ _ rfl (Below.refl _ _) (fun h => by cases h)
              trivial
            · intro f w1 hb hf hne
              refine wpList_nil ?_
              have d29 : f 29 = .bool true := hf 17 _ _ (by decide) rfl rfl
              clear hf hne
              simp only [d29]
              clear d29
              go_wp2
              go_returns
              exact ⟨by rw [hf.out]; rfl, hb0.trans (hb.mono hb0.size)⟩
end Go.Proofs.Ytdgaoljobpneaaa
