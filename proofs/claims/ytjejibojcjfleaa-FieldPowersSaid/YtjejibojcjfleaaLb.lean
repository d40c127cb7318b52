/- The law FieldBytes, walked. -/
import Derived.Test.YtjejibojcjfleaaBy
namespace Go.Proofs.Ytjejibojcjfleaa
open Go.RowKit
theorem R_of {x : Fe.E} (hw : Fe.W x) (h : ∀ k, k < 5 → Fe.limb x k < 4503599627370496) : Fe.R x := by
  have h0 := h 0 (by decide); have h1 := h 1 (by decide); have h2 := h 2 (by decide); have h3 := h 3 (by decide); have h4 := h 4 (by decide)
  simp only [Fe.limb] at h0 h1 h2 h3 h4
  simp only [Fe.W, Fe.R] at *
  omega
def ElB (x : Fe.E) : Value → World → Prop := fun v w => ∃ g, v = .slice (some ⟨g, 0, none⟩) 1 1 ∧ Blk w g 24 #[.int .u64 x.a0, .int .u64 x.a1, .int .u64 x.a2, .int .u64 x.a3, .int .u64 x.a4]
theorem sta_el (x : Fe.E) : Sta (ElB x) := fun _ _ _ ⟨g, h1, h2⟩ hb => ⟨g, h1, h2.below hb⟩
theorem cells1 (x : Fe.E) {w : World} {g : Nat} (h : Blk w g 24 #[.int .u64 x.a0, .int .u64 x.a1, .int .u64 x.a2, .int .u64 x.a3, .int .u64 x.a4]) : ∀ i, i < 1 → ∀ k, k < 5 → w.cell? ⟨g, i * 5 + k, none⟩ = some (.int .u64 (Fe.limb x k)) := by
  intro i hi k hk
  rw [h.cell]
  have : i = 0 := by omega
  have h5 : k = 0 ∨ k = 1 ∨ k = 2 ∨ k = 3 ∨ k = 4 := by omega
  subst this
  rcases h5 with rfl | rfl | rfl | rfl | rfl <;> rfl
def xs2 (a b : Fe.E) : Nat → Fe.E
  | 0 => a
  | _ => b
def dv2 (a b : Fe.E) : Array Value := #[.int .u64 a.a0, .int .u64 a.a1, .int .u64 a.a2, .int .u64 a.a3, .int .u64 a.a4, .int .u64 b.a0, .int .u64 b.a1, .int .u64 b.a2, .int .u64 b.a3, .int .u64 b.a4]
theorem cells2 (a b : Fe.E) {w : World} {g : Nat} (h : Blk w g 24 (dv2 a b)) : ∀ i, i < 2 → ∀ k, k < 5 → w.cell? ⟨g, i * 5 + k, none⟩ = some (.int .u64 (Fe.limb (xs2 a b i) k)) := by
  intro i hi k hk
  rw [h.cell]
  have : i = 0 ∨ i = 1 := by omega
  have h5 : k = 0 ∨ k = 1 ∨ k = 2 ∨ k = 3 ∨ k = 4 := by omega
  rcases this with rfl | rfl <;> rcases h5 with rfl | rfl | rfl | rfl | rfl <;> rfl
def fb5L (a b : Fe.E) : List (Value → World → Prop) := [
  Eq1 (.agg #[.int .u64 a.a0, .int .u64 a.a1, .int .u64 a.a2, .int .u64 a.a3, .int .u64 a.a4]),
  SlB (Fe.pb (Fe.canon a) 255),
  Eq1 (.agg #[.int .u64 b.a0, .int .u64 b.a1, .int .u64 b.a2, .int .u64 b.a3, .int .u64 b.a4]),
  SlB (Fe.pb (Fe.canon b) 255),
  SlB (Fe.pb (Fe.canon a) 255),
  SlB (Fe.pb (Fe.canon b) 255)]
theorem fb5S (a b : Fe.E) : ∀ j x' q q', (fb5L a b).getD j (fun _ _ => True) x' q → Below q.heap.size q q' → (fb5L a b).getD j (fun _ _ => True) x' q' := by
  refine sta_all _ ?_
  simp only [fb5L, List.mem_cons, forall_eq_or_imp, List.not_mem_nil, false_implies, implies_true, and_true]
  exact ⟨sta_eq _, sta_sl _, sta_eq _, sta_sl _, sta_sl _, sta_sl _⟩
def fb7L (a b : Fe.E) (g5 g6 : Nat) (sm z o1 o2 : Bool) : List (Value → World → Prop) := [
  Eq1 (.bool true),
  Eq1 (.bool true),
  Eq1 (.slice (some ⟨g5, 0, none⟩) 32 32),
  Eq1 (.int .i64 32),
  Eq1 (.bool true),
  Eq1 (.bool true),
  Eq1 (.bool true),
  Eq1 (.agg #[.int .u64 a.a0, .int .u64 a.a1, .int .u64 a.a2, .int .u64 a.a3, .int .u64 a.a4]),
  Eq1 (.agg #[.int .u64 (Fe.canon a).a0, .int .u64 (Fe.canon a).a1, .int .u64 (Fe.canon a).a2, .int .u64 (Fe.canon a).a3, .int .u64 (Fe.canon a).a4]),
  Eq1 (.bool true),
  Eq1 (.bool true),
  Eq1 (.bool true),
  Eq1 (.agg #[.int .u64 (Fe.canon a).a0, .int .u64 (Fe.canon a).a1, .int .u64 (Fe.canon a).a2, .int .u64 (Fe.canon a).a3, .int .u64 (Fe.canon a).a4]),
  ElB (Fe.canon a),
  Eq1 (.bool true),
  Eq1 (.bool true),
  Eq1 (.bool true),
  Eq1 (.slice (some ⟨g5, 0, none⟩) 32 32),
  Eq1 (.slice (some ⟨g6, 0, none⟩) 32 32),
  Eq1 (.bool sm),
  Eq1 (.agg #[.int .u64 a.a0, .int .u64 a.a1, .int .u64 a.a2, .int .u64 a.a3, .int .u64 a.a4]),
  Eq1 (.agg #[.int .u64 b.a0, .int .u64 b.a1, .int .u64 b.a2, .int .u64 b.a3, .int .u64 b.a4]),
  Eq1 (.bool sm),
  Eq1 (.bool true),
  Eq1 (.bool true),
  Eq1 (.bool true),
  Eq1 (.agg #[.int .u64 a.a0, .int .u64 a.a1, .int .u64 a.a2, .int .u64 a.a3, .int .u64 a.a4]),
  Eq1 (.bool z),
  Eq1 (.agg #[.int .u64 a.a0, .int .u64 a.a1, .int .u64 a.a2, .int .u64 a.a3, .int .u64 a.a4]),
  Eq1 (.bool o1),
  Eq1 (.agg #[.int .u64 a.a0, .int .u64 a.a1, .int .u64 a.a2, .int .u64 a.a3, .int .u64 a.a4]),
  Eq1 (.agg #[.int .u64 (Fe.subE ⟨0, 0, 0, 0, 0⟩ a).a0, .int .u64 (Fe.subE ⟨0, 0, 0, 0, 0⟩ a).a1, .int .u64 (Fe.subE ⟨0, 0, 0, 0, 0⟩ a).a2, .int .u64 (Fe.subE ⟨0, 0, 0, 0, 0⟩ a).a3, .int .u64 (Fe.subE ⟨0, 0, 0, 0, 0⟩ a).a4]),
  Eq1 (.bool o2),
  Eq1 (.bool (o1 == o2)),
  Eq1 (.bool true),
  Eq1 (.bool true),
  Eq1 (.bool true)]
theorem fb7S (a b : Fe.E) (g5 g6 : Nat) (sm z o1 o2 : Bool) : ∀ j x' q q', (fb7L a b g5 g6 sm z o1 o2).getD j (fun _ _ => True) x' q → Below q.heap.size q q' → (fb7L a b g5 g6 sm z o1 o2).getD j (fun _ _ => True) x' q' := by
  refine sta_all _ ?_
  simp only [fb7L, List.mem_cons, forall_eq_or_imp, List.not_mem_nil, false_implies, implies_true, and_true]
  exact ⟨sta_eq _, sta_eq _, sta_eq _, sta_eq _, sta_eq _, sta_eq _, sta_eq _, sta_eq _, sta_eq _, sta_eq _, sta_eq _, sta_eq _, sta_eq _, sta_el _, sta_eq _, sta_eq _, sta_eq _, sta_eq _, sta_eq _, sta_eq _, sta_eq _, sta_eq _, sta_eq _, sta_eq _, sta_eq _, sta_eq _, sta_eq _, sta_eq _, sta_eq _, sta_eq _, sta_eq _, sta_eq _, sta_eq _, sta_eq _, sta_eq _, sta_eq _, sta_eq _⟩

set_option maxHeartbeats 4000000 in
set_option maxRecDepth 10000 in
theorem fieldBytes_c (a b : Fe.E) (hwa : Fe.W a) (hwb : Fe.W b) (w : World) : Calls Try.prog 4 #[.agg #[.int .u64 a.a0, .int .u64 a.a1, .int .u64 a.a2, .int .u64 a.a3, .int .u64 a.a4], .agg #[.int .u64 b.a0, .int .u64 b.a1, .int .u64 b.a2, .int .u64 b.a3, .int .u64 b.a4]] w (PostV (.bool true) w) := by
  go_enter Try.func4, Try.ntmps4
  go_wp2_with fail
  refine calls_at (fun W0 hW => ?_)
  have hA : Blk W0 (w.heap.size) 24 #[.int .u64 a.a0, .int .u64 a.a1, .int .u64 a.a2, .int .u64 a.a3, .int .u64 a.a4] := by rw [hW]; exact (Blk.new _ _ _).alloc _
  have hB : Blk W0 (w.heap.size + 1) 24 #[.int .u64 b.a0, .int .u64 b.a1, .int .u64 b.a2, .int .u64 b.a3, .int .u64 b.a4] := by rw [hW]; exact blk_at (by simp) (Blk.new _ _ _)
  have hb0 : Below w.heap.size w W0 := by rw [hW]; go_grown
  clear hW
  refine (awake_c _).mono ?_
  rintro e w1 ⟨rfl, hb1⟩
  replace hA := hA.below hb1
  replace hB := hB.below hb1
  replace hb0 := hb0.trans (hb1.mono hb0.size)
  clear hb1
  obtain ⟨p0, p1, p2, p3, p4⟩ := blk5 hA
  obtain ⟨q0, q1, q2, q3, q4⟩ := blk5 hB
  go_wp2_with fail
  refine calls_at (fun W1 hW => ?_)
  replace hb0 : Below w.heap.size w W1 := by rw [hW]; exact hb0.alloc hb0.size _
  have hS : Blk W1 w1.heap.size 24 (dv2 a b) := by rw [hW]; exact Blk.new _ _ _
  replace hA : Blk W1 (w.heap.size) 24 #[.int .u64 a.a0, .int .u64 a.a1, .int .u64 a.a2, .int .u64 a.a3, .int .u64 a.a4] := by rw [hW]; exact hA.alloc _
  replace hB : Blk W1 (w.heap.size + 1) 24 #[.int .u64 b.a0, .int .u64 b.a1, .int .u64 b.a2, .int .u64 b.a3, .int .u64 b.a4] := by rw [hW]; exact hB.alloc _
  clear hW p0 p1 p2 p3 p4 q0 q1 q2 q3 q4
  refine (right_c w1.heap.size 2 2 (by decide) (xs2 a b) (fun i => by unfold xs2; split <;> assumption) _ hS.lt (cells2 a b hS)).mono ?_
  rintro e w2 ⟨rfl, hb2⟩
  replace hA := hA.below hb2
  replace hB := hB.below hb2
  replace hb0 := hb0.trans (hb2.mono hb0.size)
  clear hb2 hS
  by_cases hr : rightB 2 (xs2 a b) = true
  · have hra : Fe.R a := R_of hwa ((rightB_iff 2 (xs2 a b)).1 hr 0 (by decide))
    have hrb : Fe.R b := R_of hwb ((rightB_iff 2 (xs2 a b)).1 hr 1 (by decide))
    rw [hr]
    clear hr
    generalize w1.heap.size = gs
    go_wp2
    refine wp_region_grow2 6 (fun k => (Nat.ble 5 k && Nat.ble k 6) || (Nat.ble 16 k && Nat.ble k 19)) _ [] (fun j x' q => (fb5L a b).getD j (fun _ _ => True) x' q) (fun _ => false) (fun f => #[.agg #[.int .u64 a.a0, .int .u64 a.a1, .int .u64 a.a2, .int .u64 a.a3, .int .u64 a.a4], .agg #[.int .u64 b.a0, .int .u64 b.a1, .int .u64 b.a2, .int .u64 b.a3, .int .u64 b.a4], .pointer (some ⟨w.heap.size, 0, none⟩), .pointer (some ⟨w.heap.size + 1, 0, none⟩), .bool false, f 5, f 6, undef, undef, .bool true, .bool false, .agg #[.int .u64 a.a0, .int .u64 a.a1, .int .u64 a.a2, .int .u64 a.a3, .int .u64 a.a4], .agg #[.int .u64 b.a0, .int .u64 b.a1, .int .u64 b.a2, .int .u64 b.a3, .int .u64 b.a4], .slice (some ⟨gs, 0, none⟩) 2 2, .bool true, .bool false, f 16, f 17, f 18, f 19, undef, undef, undef, undef, undef, undef, undef, undef, undef, undef, undef, undef, undef, undef, undef, undef, undef, undef, undef, undef, undef, undef, undef, undef, undef, undef, undef, undef, undef, undef, undef, undef, undef, undef, undef, undef, undef, undef, undef, undef, undef]) (fun f => rfl) (by kernel_rfl) (by kernel_rfl) (by kernel_rfl) (by kernel_rfl) (by kernel_rfl) (fb5S _ _) (fun _ _ _ h => by cases h) ?_ ?_
    · refine steps2_cons ?_ ?_
      · intro f w1 hb hd Q hK
        clear hd
        have hK := Lib.hid hK
        obtain ⟨c0, c1, c2, c3, c4⟩ := blk5 (hA.below hb)
        go_wp2
        exact hK.out _ _ rfl (Below.refl _ _) (fun h => by cases h)
      refine steps2_cons ?_ ?_
      · intro f w1 hb hd Q hK
        have e16 : f 16 = .agg #[.int .u64 a.a0, .int .u64 a.a1, .int .u64 a.a2, .int .u64 a.a3, .int .u64 a.a4] := hd.1 rfl
        clear hd
        simp only [e16] at hK
        have hK := Lib.hid hK
        go_wp2_with fail
        refine (put_B a hwa _).mono ?_
        rintro e w2 ⟨g, -, rfl, hG, hb2⟩
        go_wp2
        exact hK.out _ _ ⟨g, rfl, hG⟩ hb2 (fun h => by cases h)
      refine steps2_cons ?_ ?_
      · intro f w1 hb hd Q hK
        clear hd
        have hK := Lib.hid hK
        obtain ⟨c0, c1, c2, c3, c4⟩ := blk5 (hB.below hb)
        go_wp2
        exact hK.out _ _ rfl (Below.refl _ _) (fun h => by cases h)
      refine steps2_cons ?_ ?_
      · intro f w1 hb hd Q hK
        have e18 : f 18 = .agg #[.int .u64 b.a0, .int .u64 b.a1, .int .u64 b.a2, .int .u64 b.a3, .int .u64 b.a4] := hd.1 rfl
        clear hd
        simp only [e18] at hK
        have hK := Lib.hid hK
        go_wp2_with fail
        refine (put_B b hwb _).mono ?_
        rintro e w2 ⟨g, -, rfl, hG, hb2⟩
        go_wp2
        exact hK.out _ _ ⟨g, rfl, hG⟩ hb2 (fun h => by cases h)
      refine steps2_cons ?_ ?_
      · intro f w1 hb hd Q hK
        obtain ⟨g17, e17, bk17⟩ := (hd.1 rfl : SlB (Fe.pb (Fe.canon a) 255) (f 17) w1)
        clear hd
        simp only [e17] at hK
        have hK := Lib.hid hK
        go_wp2
        exact hK.out _ _ ⟨g17, rfl, bk17⟩ (Below.refl _ _) (fun h => by cases h)
      refine steps2_cons ?_ ?_
      · intro f w1 hb hd Q hK
        obtain ⟨g19, e19, bk19⟩ := (hd.1 rfl : SlB (Fe.pb (Fe.canon b) 255) (f 19) w1)
        clear hd
        simp only [e19] at hK
        have hK := Lib.hid hK
        go_wp2
        exact hK.out _ _ ⟨g19, rfl, bk19⟩ (Below.refl _ _) (fun h => by cases h)
      trivial
    · intro f5 w1 hb hf hne
      refine wpList_nil ?_
      obtain ⟨g5, d5, bk5⟩ : SlB (Fe.pb (Fe.canon a) 255) (f5 5) w1 := hf 4 _ _ (by decide) rfl rfl
      obtain ⟨g6, d6, bk6⟩ : SlB (Fe.pb (Fe.canon b) 255) (f5 6) w1 := hf 5 _ _ (by decide) rfl rfl
      clear hf hne
      replace hA := hA.below hb
      replace hB := hB.below hb
      replace hb0 := hb0.trans (hb.mono hb0.size)
      clear hb
      simp only [d5, d6]
      have hget := get_E (Fe.pb (Fe.canon a) 255) g5 0
      clear d5 d6
      go_wp2_with fail
      refine (get_E (Fe.pb (Fe.canon a) 255) g5 0 _ (byV_cell bk5) (Fe.pb_range _) bk5.lt (Fe.canon a) true (Fe.getOk_put hra).symm (by rw [Fe.get_put (Fe.canon_d a)]; rfl)).mono ?_
      rintro e w4 ⟨rfl, hb4⟩
      clear hget
      replace hA := hA.below hb4
      replace hB := hB.below hb4
      replace bk5 := bk5.below hb4
      replace bk6 := bk6.below hb4
      replace hb0 := hb0.trans (hb4.mono hb0.size)
      clear hb4
      have hwc : Fe.W (Fe.canon a) := (Fe.canon_d a).w
      go_wp2
      refine at_world (fun W3 hW => ?_)
      replace hb0 : Below w.heap.size w W3 := by rw [hW]; exact hb0.alloc hb0.size _
      have hC : Blk W3 w4.heap.size 24 #[.int .u64 (Fe.canon a).a0, .int .u64 (Fe.canon a).a1, .int .u64 (Fe.canon a).a2, .int .u64 (Fe.canon a).a3, .int .u64 (Fe.canon a).a4] := by rw [hW]; exact Blk.new _ _ _
      replace hA : Blk W3 (w.heap.size) 24 #[.int .u64 a.a0, .int .u64 a.a1, .int .u64 a.a2, .int .u64 a.a3, .int .u64 a.a4] := by rw [hW]; exact hA.alloc _
      replace hB : Blk W3 (w.heap.size + 1) 24 #[.int .u64 b.a0, .int .u64 b.a1, .int .u64 b.a2, .int .u64 b.a3, .int .u64 b.a4] := by rw [hW]; exact hB.alloc _
      replace bk5 : Blk W3 g5 5 (byV 32 (Fe.pb (Fe.canon a) 255)) := by rw [hW]; exact bk5.alloc _
      replace bk6 : Blk W3 g6 5 (byV 32 (Fe.pb (Fe.canon b) 255)) := by rw [hW]; exact bk6.alloc _
      clear hW
      generalize w4.heap.size = gc at *
      obtain ⟨z, hz⟩ : ∃ z, z = eqE (Fe.canon a) ⟨0, 0, 0, 0, 0⟩ := ⟨_, rfl⟩
      obtain ⟨o1, ho1⟩ : ∃ z, z = decide ((Fe.canon a).a0 % 2 = 1) := ⟨_, rfl⟩
      obtain ⟨o2, ho2⟩ : ∃ z, z = decide ((Fe.canon (Fe.subE ⟨0, 0, 0, 0, 0⟩ a)).a0 % 2 = 1) := ⟨_, rfl⟩
      obtain ⟨sm, hq⟩ : ∃ z, z = eqE (Fe.canon a) (Fe.canon b) := ⟨_, rfl⟩
      have hlaw : (z == (o1 == o2)) = true := by rw [hz, ho1, ho2]; exact Fe.odd_law hra
      have hr1 : rightB 1 (fun _ => Fe.canon a) = true := (rightB_iff 1 _).2 fun i _ k _ => by have := Fe.limb_d (Fe.canon_d a) k; omega
      have c9 : ∀ w, Calls Try.prog 21 #[.agg #[.int .u64 a.a0, .int .u64 a.a1, .int .u64 a.a2, .int .u64 a.a3, .int .u64 a.a4], .agg #[.int .u64 (Fe.canon a).a0, .int .u64 (Fe.canon a).a1, .int .u64 (Fe.canon a).a2, .int .u64 (Fe.canon a).a3, .int .u64 (Fe.canon a).a4]] w (PostV (.bool true) w) := fun w => by have h := same_E a (Fe.canon a) hwa hwc w; rw [Fe.canon_canon hra, Fe.eqE_refl] at h; exact h
      have c22 : ∀ w, Calls Try.prog 21 #[.agg #[.int .u64 a.a0, .int .u64 a.a1, .int .u64 a.a2, .int .u64 a.a3, .int .u64 a.a4], .agg #[.int .u64 b.a0, .int .u64 b.a1, .int .u64 b.a2, .int .u64 b.a3, .int .u64 b.a4]] w (PostV (.bool sm) w) := fun w => by rw [hq]; exact same_E a b hwa hwb w
      have c27 : ∀ w, Calls Try.prog 23 #[.agg #[.int .u64 a.a0, .int .u64 a.a1, .int .u64 a.a2, .int .u64 a.a3, .int .u64 a.a4]] w (PostV (.bool z) w) := fun w => by rw [hz]; exact zero_E a hwa w
      have c29 : ∀ w, Calls Try.prog 24 #[.agg #[.int .u64 a.a0, .int .u64 a.a1, .int .u64 a.a2, .int .u64 a.a3, .int .u64 a.a4]] w (PostV (.bool o1) w) := fun w => by rw [ho1]; exact odd_E a hwa ⟨(Fe.canon_d a).1.1, Int.le_trans (Int.le_of_lt (Fe.canon_d a).1.2) (by decide)⟩ w
      have c32 : ∀ w, Calls Try.prog 24 #[.agg #[.int .u64 (Fe.subE ⟨0, 0, 0, 0, 0⟩ a).a0, .int .u64 (Fe.subE ⟨0, 0, 0, 0, 0⟩ a).a1, .int .u64 (Fe.subE ⟨0, 0, 0, 0, 0⟩ a).a2, .int .u64 (Fe.subE ⟨0, 0, 0, 0, 0⟩ a).a3, .int .u64 (Fe.subE ⟨0, 0, 0, 0, 0⟩ a).a4]] w (PostV (.bool o2) w) := fun w => by rw [ho2]; exact odd_E _ (Fe.subE_w _ _) ⟨(Fe.canon_d _).1.1, Int.le_trans (Int.le_of_lt (Fe.canon_d _).1.2) (by decide)⟩ w
      have c19 : ∀ w', Below W3.heap.size W3 w' → Calls Try.prog 22 #[.slice (some ⟨g5, 0, none⟩) 32 32, .slice (some ⟨g6, 0, none⟩) 32 32] w' (PostV (.bool sm) w') := fun w' hb => by
        have h := same_bytes g5 g6 _ _ w' (bk5.below hb) (bk6.below hb)
        rw [Fe.same_put, ← hq] at h
        exact h
      replace hlaw := Lib.hid hlaw
      replace hr1 := Lib.hid hr1
      replace c9 := Lib.hid c9
      replace c22 := Lib.hid c22
      replace c27 := Lib.hid c27
      replace c29 := Lib.hid c29
      replace c32 := Lib.hid c32
      replace c19 := Lib.hid c19
      clear hz ho1 ho2 hq bk5 bk6
      refine wp_region_grow2 37 (fun k => Nat.beq k 4 || (Nat.ble 25 k && Nat.ble k 60)) _ [] (fun j x' q => (fb7L a b g5 g6 sm z o1 o2).getD j (fun _ _ => True) x' q) (fun _ => false) (fun f => #[.agg #[.int .u64 a.a0, .int .u64 a.a1, .int .u64 a.a2, .int .u64 a.a3, .int .u64 a.a4], .agg #[.int .u64 b.a0, .int .u64 b.a1, .int .u64 b.a2, .int .u64 b.a3, .int .u64 b.a4], .pointer (some ⟨w.heap.size, 0, none⟩), .pointer (some ⟨w.heap.size + 1, 0, none⟩), f 4, .slice (some ⟨g5, 0, none⟩) 32 32, .slice (some ⟨g6, 0, none⟩) 32 32, .pointer (some ⟨gc, 0, none⟩), .bool true, .bool true, .bool false, .agg #[.int .u64 a.a0, .int .u64 a.a1, .int .u64 a.a2, .int .u64 a.a3, .int .u64 a.a4], .agg #[.int .u64 b.a0, .int .u64 b.a1, .int .u64 b.a2, .int .u64 b.a3, .int .u64 b.a4], .slice (some ⟨gs, 0, none⟩) 2 2, .bool true, .bool false, f5 16, f5 17, f5 18, f5 19, .tuple #[.agg #[.int .u64 (Fe.canon a).a0, .int .u64 (Fe.canon a).a1, .int .u64 (Fe.canon a).a2, .int .u64 (Fe.canon a).a3, .int .u64 (Fe.canon a).a4], .bool true], .slice (some ⟨g5, 0, none⟩) 32 32, .tuple #[.agg #[.int .u64 (Fe.canon a).a0, .int .u64 (Fe.canon a).a1, .int .u64 (Fe.canon a).a2, .int .u64 (Fe.canon a).a3, .int .u64 (Fe.canon a).a4], .bool true], .agg #[.int .u64 (Fe.canon a).a0, .int .u64 (Fe.canon a).a1, .int .u64 (Fe.canon a).a2, .int .u64 (Fe.canon a).a3, .int .u64 (Fe.canon a).a4], .bool true, f 25, f 26, f 27, f 28, f 29, f 30, f 31, f 32, f 33, f 34, f 35, f 36, f 37, f 38, f 39, f 40, f 41, f 42, f 43, f 44, f 45, f 46, f 47, f 48, f 49, f 50, f 51, f 52, f 53, f 54, f 55, f 56, f 57, f 58, f 59, f 60]) (fun f => rfl) (by kernel_rfl) (by kernel_rfl) (by kernel_rfl) (by kernel_rfl) (by kernel_rfl) (fb7S _ _ _ _ _ _ _ _) (fun _ _ _ h => by cases h) ?_ ?_
      · refine steps2_cons ?_ ?_
        · intro f w1 hb hd Q hK
          clear hd
          have hK := Lib.hid hK
          go_wp2
          exact hK.out _ _ rfl (Below.refl _ _) (fun h => by cases h)
        refine steps2_cons ?_ ?_
        · intro f w1 hb hd Q hK
          have e25 : f 25 = .bool true := hd.1 rfl
          clear hd
          simp only [e25] at hK
          have hK := Lib.hid hK
          go_wp2
          exact hK.out _ _ rfl (Below.refl _ _) (fun h => by cases h)
        refine steps2_cons ?_ ?_
        · intro f w1 hb hd Q hK
          have e26 : f 26 = .bool true := hd.1 rfl
          clear hd
          simp only [e26] at hK
          have hK := Lib.hid hK
          go_wp2
          exact hK.out _ _ rfl (Below.refl _ _) (fun h => by cases h)
        refine steps2_cons ?_ ?_
        · intro f w1 hb hd Q hK
          have e27 : f 27 = .slice (some ⟨g5, 0, none⟩) 32 32 := hd.1 rfl
          have e26 : f 26 = .bool true := hd.2.1 rfl
          clear hd
          simp only [e27, e26] at hK
          have hK := Lib.hid hK
          go_wp2
          exact hK.out _ _ rfl (Below.refl _ _) (fun h => by cases h)
        refine steps2_cons ?_ ?_
        · intro f w1 hb hd Q hK
          have e28 : f 28 = .int .i64 32 := hd.1 rfl
          have e26 : f 26 = .bool true := hd.2.1 rfl
          clear hd
          simp only [e28, e26] at hK
          have hK := Lib.hid hK
          go_wp2
          exact hK.out _ _ rfl (Below.refl _ _) (fun h => by cases h)
        refine steps2_cons ?_ ?_
        · intro f w1 hb hd Q hK
          have e26 : f 26 = .bool true := hd.1 rfl
          have e29 : f 29 = .bool true := hd.2.1 rfl
          clear hd
          simp only [e26, e29] at hK
          have hK := Lib.hid hK
          go_wp2
          exact hK.out _ _ rfl (Below.refl _ _) (fun h => by cases h)
        refine steps2_cons ?_ ?_
        · intro f w1 hb hd Q hK
          have e30 : f 30 = .bool true := hd.1 rfl
          clear hd
          simp only [e30] at hK
          have hK := Lib.hid hK
          go_wp2
          exact hK.out _ _ rfl (Below.refl _ _) (fun h => by cases h)
        refine steps2_cons ?_ ?_
        · intro f w1 hb hd Q hK
          have e31 : f 31 = .bool true := hd.1 rfl
          clear hd
          simp only [e31] at hK
          have hK := Lib.hid hK
          obtain ⟨c0, c1, c2, c3, c4⟩ := blk5 (hA.below hb)
          go_wp2
          exact hK.out _ _ rfl (Below.refl _ _) (fun h => by cases h)
        refine steps2_cons ?_ ?_
        · intro f w1 hb hd Q hK
          have e31 : f 31 = .bool true := hd.1 rfl
          clear hd
          simp only [e31] at hK
          have hK := Lib.hid hK
          obtain ⟨c0, c1, c2, c3, c4⟩ := blk5 (hC.below hb)
          go_wp2
          exact hK.out _ _ rfl (Below.refl _ _) (fun h => by cases h)
        refine steps2_cons ?_ ?_
        · intro f w1 hb hd Q hK
          have e32 : f 32 = .agg #[.int .u64 a.a0, .int .u64 a.a1, .int .u64 a.a2, .int .u64 a.a3, .int .u64 a.a4] := hd.1 rfl
          have e33 : f 33 = .agg #[.int .u64 (Fe.canon a).a0, .int .u64 (Fe.canon a).a1, .int .u64 (Fe.canon a).a2, .int .u64 (Fe.canon a).a3, .int .u64 (Fe.canon a).a4] := hd.2.1 rfl
          have e31 : f 31 = .bool true := hd.2.2.1 rfl
          clear hd
          simp only [e32, e33, e31] at hK
          have hK := Lib.hid hK
          go_wp2_with fail
          refine (c9.out _).mono ?_
          rintro e w2 ⟨rfl, hb2⟩
          go_wp2
          exact hK.out _ _ rfl hb2 (fun h => by cases h)
        refine steps2_cons ?_ ?_
        · intro f w1 hb hd Q hK
          have e31 : f 31 = .bool true := hd.1 rfl
          have e34 : f 34 = .bool true := hd.2.1 rfl
          clear hd
          simp only [e31, e34] at hK
          have hK := Lib.hid hK
          go_wp2
          exact hK.out _ _ rfl (Below.refl _ _) (fun h => by cases h)
        refine steps2_cons ?_ ?_
        · intro f w1 hb hd Q hK
          have e35 : f 35 = .bool true := hd.1 rfl
          clear hd
          simp only [e35] at hK
          have hK := Lib.hid hK
          go_wp2
          exact hK.out _ _ rfl (Below.refl _ _) (fun h => by cases h)
        refine steps2_cons ?_ ?_
        · intro f w1 hb hd Q hK
          have e36 : f 36 = .bool true := hd.1 rfl
          clear hd
          simp only [e36] at hK
          have hK := Lib.hid hK
          obtain ⟨c0, c1, c2, c3, c4⟩ := blk5 (hC.below hb)
          go_wp2
          exact hK.out _ _ rfl (Below.refl _ _) (fun h => by cases h)
        refine steps2_cons ?_ ?_
        · intro f w1 hb hd Q hK
          have e37 : f 37 = .agg #[.int .u64 (Fe.canon a).a0, .int .u64 (Fe.canon a).a1, .int .u64 (Fe.canon a).a2, .int .u64 (Fe.canon a).a3, .int .u64 (Fe.canon a).a4] := hd.1 rfl
          have e36 : f 36 = .bool true := hd.2.1 rfl
          clear hd
          simp only [e37, e36] at hK
          have hK := Lib.hid hK
          go_wp2
          exact hK.out _ _ ⟨_, rfl, Blk.new _ _ _⟩ ((Below.refl _ _).alloc (Nat.le_refl _) _) (fun h => by cases h)
        refine steps2_cons ?_ ?_
        · intro f w1 hb hd Q hK
          obtain ⟨g38, e38, bk38⟩ := (hd.1 rfl : ElB (Fe.canon a) (f 38) w1)
          have e36 : f 36 = .bool true := hd.2.1 rfl
          clear hd
          simp only [e38, e36] at hK
          have hK := Lib.hid hK
          go_wp2_with fail
          refine (right_c g38 1 1 (by decide) (fun _ => Fe.canon a) (fun _ => hwc) _ bk38.lt (cells1 _ bk38)).mono ?_
          rintro e w2 ⟨rfl, hb2⟩
          go_wp2
          exact hK.out _ _ (by show Value.bool _ = _; rw [hr1.out]) hb2 (fun h => by cases h)
        refine steps2_cons ?_ ?_
        · intro f w1 hb hd Q hK
          have e36 : f 36 = .bool true := hd.1 rfl
          have e39 : f 39 = .bool true := hd.2.1 rfl
          clear hd
          simp only [e36, e39] at hK
          have hK := Lib.hid hK
          go_wp2
          exact hK.out _ _ rfl (Below.refl _ _) (fun h => by cases h)
        refine steps2_cons ?_ ?_
        · intro f w1 hb hd Q hK
          have e40 : f 40 = .bool true := hd.1 rfl
          clear hd
          simp only [e40] at hK
          have hK := Lib.hid hK
          go_wp2
          exact hK.out _ _ rfl (Below.refl _ _) (fun h => by cases h)
        refine steps2_cons ?_ ?_
        · intro f w1 hb hd Q hK
          have e41 : f 41 = .bool true := hd.1 rfl
          clear hd
          simp only [e41] at hK
          have hK := Lib.hid hK
          go_wp2
          exact hK.out _ _ rfl (Below.refl _ _) (fun h => by cases h)
        refine steps2_cons ?_ ?_
        · intro f w1 hb hd Q hK
          have e41 : f 41 = .bool true := hd.1 rfl
          clear hd
          simp only [e41] at hK
          have hK := Lib.hid hK
          go_wp2
          exact hK.out _ _ rfl (Below.refl _ _) (fun h => by cases h)
        refine steps2_cons ?_ ?_
        · intro f w1 hb hd Q hK
          have e42 : f 42 = .slice (some ⟨g5, 0, none⟩) 32 32 := hd.1 rfl
          have e43 : f 43 = .slice (some ⟨g6, 0, none⟩) 32 32 := hd.2.1 rfl
          have e41 : f 41 = .bool true := hd.2.2.1 rfl
          clear hd
          simp only [e42, e43, e41] at hK
          have hK := Lib.hid hK
          go_wp2_with fail
          refine (c19.out _ hb).mono ?_
          rintro e w2 ⟨rfl, hb2⟩
          go_wp2
          exact hK.out _ _ rfl hb2 (fun h => by cases h)
        refine steps2_cons ?_ ?_
        · intro f w1 hb hd Q hK
          have e41 : f 41 = .bool true := hd.1 rfl
          clear hd
          simp only [e41] at hK
          have hK := Lib.hid hK
          obtain ⟨c0, c1, c2, c3, c4⟩ := blk5 (hA.below hb)
          go_wp2
          exact hK.out _ _ rfl (Below.refl _ _) (fun h => by cases h)
        refine steps2_cons ?_ ?_
        · intro f w1 hb hd Q hK
          have e41 : f 41 = .bool true := hd.1 rfl
          clear hd
          simp only [e41] at hK
          have hK := Lib.hid hK
          obtain ⟨c0, c1, c2, c3, c4⟩ := blk5 (hB.below hb)
          go_wp2
          exact hK.out _ _ rfl (Below.refl _ _) (fun h => by cases h)
        refine steps2_cons ?_ ?_
        · intro f w1 hb hd Q hK
          have e45 : f 45 = .agg #[.int .u64 a.a0, .int .u64 a.a1, .int .u64 a.a2, .int .u64 a.a3, .int .u64 a.a4] := hd.1 rfl
          have e46 : f 46 = .agg #[.int .u64 b.a0, .int .u64 b.a1, .int .u64 b.a2, .int .u64 b.a3, .int .u64 b.a4] := hd.2.1 rfl
          have e41 : f 41 = .bool true := hd.2.2.2.1 rfl
          clear hd
          simp only [e45, e46, e41] at hK
          have hK := Lib.hid hK
          go_wp2_with fail
          refine (c22.out _).mono ?_
          rintro e w2 ⟨rfl, hb2⟩
          go_wp2
          exact hK.out _ _ rfl hb2 (fun h => by cases h)
        refine steps2_cons ?_ ?_
        · intro f w1 hb hd Q hK
          have e44 : f 44 = .bool sm := hd.1 rfl
          have e47 : f 47 = .bool sm := hd.2.1 rfl
          have e41 : f 41 = .bool true := hd.2.2.1 rfl
          clear hd
          simp only [e44, e47, e41] at hK
          have hK := Lib.hid hK
          go_wp2
          exact hK.out _ _ (by show Value.bool _ = _; simp) (Below.refl _ _) (fun h => by cases h)
        refine steps2_cons ?_ ?_
        · intro f w1 hb hd Q hK
          have e41 : f 41 = .bool true := hd.1 rfl
          have e48 : f 48 = .bool true := hd.2.1 rfl
          clear hd
          simp only [e41, e48] at hK
          have hK := Lib.hid hK
          go_wp2
          exact hK.out _ _ rfl (Below.refl _ _) (fun h => by cases h)
        refine steps2_cons ?_ ?_
        · intro f w1 hb hd Q hK
          have e49 : f 49 = .bool true := hd.1 rfl
          clear hd
          simp only [e49] at hK
          have hK := Lib.hid hK
          go_wp2
          exact hK.out _ _ rfl (Below.refl _ _) (fun h => by cases h)
        refine steps2_cons ?_ ?_
        · intro f w1 hb hd Q hK
          have e50 : f 50 = .bool true := hd.1 rfl
          clear hd
          simp only [e50] at hK
          have hK := Lib.hid hK
          obtain ⟨c0, c1, c2, c3, c4⟩ := blk5 (hA.below hb)
          go_wp2
          exact hK.out _ _ rfl (Below.refl _ _) (fun h => by cases h)
        refine steps2_cons ?_ ?_
        · intro f w1 hb hd Q hK
          have e51 : f 51 = .agg #[.int .u64 a.a0, .int .u64 a.a1, .int .u64 a.a2, .int .u64 a.a3, .int .u64 a.a4] := hd.1 rfl
          have e50 : f 50 = .bool true := hd.2.1 rfl
          clear hd
          simp only [e51, e50] at hK
          have hK := Lib.hid hK
          go_wp2_with fail
          refine (c27.out _).mono ?_
          rintro e w2 ⟨rfl, hb2⟩
          go_wp2
          exact hK.out _ _ rfl hb2 (fun h => by cases h)
        refine steps2_cons ?_ ?_
        · intro f w1 hb hd Q hK
          have e50 : f 50 = .bool true := hd.1 rfl
          clear hd
          simp only [e50] at hK
          have hK := Lib.hid hK
          obtain ⟨c0, c1, c2, c3, c4⟩ := blk5 (hA.below hb)
          go_wp2
          exact hK.out _ _ rfl (Below.refl _ _) (fun h => by cases h)
        refine steps2_cons ?_ ?_
        · intro f w1 hb hd Q hK
          have e53 : f 53 = .agg #[.int .u64 a.a0, .int .u64 a.a1, .int .u64 a.a2, .int .u64 a.a3, .int .u64 a.a4] := hd.1 rfl
          have e50 : f 50 = .bool true := hd.2.2.1 rfl
          clear hd
          simp only [e53, e50] at hK
          have hK := Lib.hid hK
          go_wp2_with fail
          refine (c29.out _).mono ?_
          rintro e w2 ⟨rfl, hb2⟩
          go_wp2
          exact hK.out _ _ rfl hb2 (fun h => by cases h)
        refine steps2_cons ?_ ?_
        · intro f w1 hb hd Q hK
          have e50 : f 50 = .bool true := hd.1 rfl
          clear hd
          simp only [e50] at hK
          have hK := Lib.hid hK
          obtain ⟨c0, c1, c2, c3, c4⟩ := blk5 (hA.below hb)
          go_wp2
          exact hK.out _ _ rfl (Below.refl _ _) (fun h => by cases h)
        refine steps2_cons ?_ ?_
        · intro f w1 hb hd Q hK
          have e55 : f 55 = .agg #[.int .u64 a.a0, .int .u64 a.a1, .int .u64 a.a2, .int .u64 a.a3, .int .u64 a.a4] := hd.1 rfl
          have e50 : f 50 = .bool true := hd.2.2.1 rfl
          clear hd
          simp only [e55, e50] at hK
          have hK := Lib.hid hK
          go_wp2_with fail
          refine (neg_E a _).mono ?_
          rintro e w2 ⟨rfl, hb2⟩
          go_wp2
          exact hK.out _ _ rfl hb2 (fun h => by cases h)
        refine steps2_cons ?_ ?_
        · intro f w1 hb hd Q hK
          have e56 : f 56 = .agg #[.int .u64 (Fe.subE ⟨0, 0, 0, 0, 0⟩ a).a0, .int .u64 (Fe.subE ⟨0, 0, 0, 0, 0⟩ a).a1, .int .u64 (Fe.subE ⟨0, 0, 0, 0, 0⟩ a).a2, .int .u64 (Fe.subE ⟨0, 0, 0, 0, 0⟩ a).a3, .int .u64 (Fe.subE ⟨0, 0, 0, 0, 0⟩ a).a4] := hd.1 rfl
          have e50 : f 50 = .bool true := hd.2.2.1 rfl
          clear hd
          simp only [e56, e50] at hK
          have hK := Lib.hid hK
          go_wp2_with fail
          refine (c32.out _).mono ?_
          rintro e w2 ⟨rfl, hb2⟩
          go_wp2
          exact hK.out _ _ rfl hb2 (fun h => by cases h)
        refine steps2_cons ?_ ?_
        · intro f w1 hb hd Q hK
          have e54 : f 54 = .bool o1 := hd.1 rfl
          have e57 : f 57 = .bool o2 := hd.2.1 rfl
          have e50 : f 50 = .bool true := hd.2.2.1 rfl
          clear hd
          simp only [e54, e57, e50] at hK
          have hK := Lib.hid hK
          go_wp2
          exact hK.out _ _ rfl (Below.refl _ _) (fun h => by cases h)
        refine steps2_cons ?_ ?_
        · intro f w1 hb hd Q hK
          have e52 : f 52 = .bool z := hd.1 rfl
          have e58 : f 58 = .bool (o1 == o2) := hd.2.1 rfl
          have e50 : f 50 = .bool true := hd.2.2.1 rfl
          clear hd
          simp only [e52, e58, e50] at hK
          have hK := Lib.hid hK
          go_wp2
          exact hK.out _ _ (by show Value.bool _ = _; rw [hlaw.out]) (Below.refl _ _) (fun h => by cases h)
        refine steps2_cons ?_ ?_
        · intro f w1 hb hd Q hK
          have e50 : f 50 = .bool true := hd.1 rfl
          have e59 : f 59 = .bool true := hd.2.1 rfl
          clear hd
          simp only [e50, e59] at hK
          have hK := Lib.hid hK
          go_wp2
          exact hK.out _ _ rfl (Below.refl _ _) (fun h => by cases h)
        refine steps2_cons ?_ ?_
        · intro f w1 hb hd Q hK
          have e60 : f 60 = .bool true := hd.1 rfl
          clear hd
          simp only [e60] at hK
          have hK := Lib.hid hK
          go_wp2
          exact hK.out _ _ rfl (Below.refl _ _) (fun h => by cases h)
        trivial
      · intro f w1 hb hf hne
        refine wpList_nil ?_
        have d4 : f 4 = .bool true := hf 36 _ _ (by decide) rfl rfl
        clear hf hne
        simp only [d4]
        go_wp2
        go_returns
        exact ⟨rfl, hb0.trans (hb.mono hb0.size)⟩

  · have hr' : rightB 2 (xs2 a b) = false := by simpa using hr
    rw [hr']
    go_wp2
    go_returns
    exact ⟨rfl, hb0⟩
end Go.Proofs.Ytjejibojcjfleaa
