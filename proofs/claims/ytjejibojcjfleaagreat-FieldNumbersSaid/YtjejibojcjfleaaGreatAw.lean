/- The walk of awake. -/
import Derived.Test.YtjejibojcjfleaaGreatAw0
namespace Go.Proofs.YtjejibojcjfleaaGreat
open Go.RowKit
def awL (x4 m1 i0 : Fe.E) (bm : Nat → Int) : List (Value → World → Prop) := [
  Eq1 (.agg #[.int .u64 1, .int .u64 0, .int .u64 0, .int .u64 0, .int .u64 0]),
  Eq1 (.agg #[.int .u64 m1.a0, .int .u64 m1.a1, .int .u64 m1.a2, .int .u64 m1.a3, .int .u64 m1.a4]),
  SlB (bm),
  SlB (edgeB (-1)),
  Eq1 (.bool true),
  Eq1 (.bool true),
  Eq1 (.bool false),
  Eq1 (.bool true),
  Eq1 (.bool true),
  Eq1 (.bool true),
  Eq1 (.bool true),
  Eq1 (.bool true),
  Eq1 (.bool true),
  Eq1 (.agg #[.int .u64 x4.a0, .int .u64 x4.a1, .int .u64 x4.a2, .int .u64 x4.a3, .int .u64 x4.a4]),
  Eq1 (.agg #[.int .u64 2, .int .u64 0, .int .u64 0, .int .u64 0, .int .u64 0]),
  Eq1 (.bool true),
  Eq1 (.bool true),
  Eq1 (.bool true),
  Eq1 (.bool false),
  Eq1 (.bool true),
  Eq1 (.bool true),
  Eq1 (.bool true),
  Eq1 (.agg #[.int .u64 0, .int .u64 0, .int .u64 0, .int .u64 0, .int .u64 0]),
  Eq1 (.agg #[.int .u64 i0.a0, .int .u64 i0.a1, .int .u64 i0.a2, .int .u64 i0.a3, .int .u64 i0.a4]),
  Eq1 (.bool true),
  Eq1 (.bool true),
  Eq1 (.bool true)]
theorem awS (x4 m1 i0 : Fe.E) (bm : Nat → Int) : ∀ j x' q q', (awL x4 m1 i0 bm).getD j (fun _ _ => True) x' q → Below q.heap.size q q' → (awL x4 m1 i0 bm).getD j (fun _ _ => True) x' q' := by
  refine sta_all _ ?_
  simp only [awL, List.mem_cons, forall_eq_or_imp, List.not_mem_nil, false_implies, implies_true, and_true]
  exact ⟨sta_eq _, sta_eq _, sta_sl _, sta_sl _, sta_eq _, sta_eq _, sta_eq _, sta_eq _, sta_eq _, sta_eq _, sta_eq _, sta_eq _, sta_eq _, sta_eq _, sta_eq _, sta_eq _, sta_eq _, sta_eq _, sta_eq _, sta_eq _, sta_eq _, sta_eq _, sta_eq _, sta_eq _, sta_eq _, sta_eq _, sta_eq _⟩
set_option maxRecDepth 20000 in
set_option maxHeartbeats 4000000 in
set_option maxRecDepth 10000 in
theorem awake_g (x4 x2 m1 i0 : Fe.E) (bm : Nat → Int)
    (c41 : ∀ w, Calls Tryz.prog 20 #[.agg #[.int .u64 4, .int .u64 0, .int .u64 0, .int .u64 0, .int .u64 0], .agg #[.int .u64 1, .int .u64 0, .int .u64 0, .int .u64 0, .int .u64 0]] w (PostR x4 true w))
    (c21 : ∀ w, Calls Tryz.prog 20 #[.agg #[.int .u64 2, .int .u64 0, .int .u64 0, .int .u64 0, .int .u64 0], .agg #[.int .u64 1, .int .u64 0, .int .u64 0, .int .u64 0, .int .u64 0]] w (PostR x2 false w))
    (cneg : ∀ w, Calls Tryz.prog 19 #[.agg #[.int .u64 1, .int .u64 0, .int .u64 0, .int .u64 0, .int .u64 0]] w (PostE m1 w))
    (cput : ∀ w, Calls Tryz.prog 12 #[.agg #[.int .u64 m1.a0, .int .u64 m1.a1, .int .u64 m1.a2, .int .u64 m1.a3, .int .u64 m1.a4]] w (PostB bm w))
    (cinv : ∀ w, Calls Tryz.prog 23 #[.agg #[.int .u64 0, .int .u64 0, .int .u64 0, .int .u64 0, .int .u64 0]] w (PostE i0 w))
    (czero : ∀ w, Calls Tryz.prog 22 #[.agg #[.int .u64 i0.a0, .int .u64 i0.a1, .int .u64 i0.a2, .int .u64 i0.a3, .int .u64 i0.a4]] w (PostV (.bool true) w))
    (csame : ∀ w, Calls Tryz.prog 21 #[.agg #[.int .u64 x4.a0, .int .u64 x4.a1, .int .u64 x4.a2, .int .u64 x4.a3, .int .u64 x4.a4], .agg #[.int .u64 2, .int .u64 0, .int .u64 0, .int .u64 0, .int .u64 0]] w (PostV (.bool true) w))
    (hsame : sameB 32 32 bm (edgeB (-1)) = true)
    (w : World) : Calls Tryz.prog 5 #[] w (PostV (.bool true) w) := by
  replace hsame := Lib.hid hsame
  replace c41 := Lib.hid c41
  replace c21 := Lib.hid c21
  replace cneg := Lib.hid cneg
  replace cput := Lib.hid cput
  replace cinv := Lib.hid cinv
  replace czero := Lib.hid czero
  replace csame := Lib.hid csame
  go_enter Tryz.func5, Tryz.ntmps5
  go_wp2_with fail
  refine (edge_B 0 (by decide) (by decide) _).mono ?_
  rintro e w1 ⟨g1, -, rfl, hG1, hb1⟩
  go_wp2_with fail
  refine (get0_v g1 _ hG1).mono ?_
  rintro e w2 ⟨rfl, hb2⟩
  have hb0 : Below w.heap.size w w2 := hb1.trans (hb2.mono hb1.size)
  clear hG1 hb1 hb2
  go_wp2_with fail
  refine calls_at (fun W0 hW => ?_)
  replace hb0 : Below w.heap.size w W0 := by rw [hW]; exact hb0.alloc hb0.size _
  clear hW
  refine (small_v 4 _).mono ?_
  rintro e w3 ⟨rfl, hb3⟩
  go_wp2_with fail
  refine (one_v _).mono ?_
  rintro e w4 ⟨rfl, hb4⟩
  go_wp2_with fail
  refine (c41.out _).mono ?_
  rintro e w5 ⟨rfl, hb5⟩
  replace hb0 := hb0.trans (((hb3.trans (hb4.mono hb3.size)).trans (hb5.mono (Nat.le_trans hb3.size hb4.size))).mono hb0.size)
  have hlt3 : w.heap.size ≤ w5.heap.size := hb0.size
  clear hb3 hb4 hb5
  go_wp2_with fail
  refine calls_at (fun W1 hW => ?_)
  replace hb0 : Below w.heap.size w W1 := by rw [hW]; exact hb0.alloc hb0.size _
  have h3 : Blk W1 w5.heap.size 27 #[.int .u64 x4.a0, .int .u64 x4.a1, .int .u64 x4.a2, .int .u64 x4.a3, .int .u64 x4.a4] := by
    rw [hW]
    exact Blk.new _ _ _
  clear hW
  refine (small_v 2 _).mono ?_
  rintro e w6 ⟨rfl, hb3⟩
  go_wp2_with fail
  refine (one_v _).mono ?_
  rintro e w7 ⟨rfl, hb4⟩
  go_wp2_with fail
  refine (c21.out _).mono ?_
  rintro e w8 ⟨rfl, hb5⟩
  have hb345 := ((hb3.trans (hb4.mono hb3.size)).trans (hb5.mono (Nat.le_trans hb3.size hb4.size)))
  replace hb0 := hb0.trans (hb345.mono hb0.size)
  replace h3 := h3.below hb345
  clear hb3 hb4 hb5 hb345
  have h3lt := h3.lt
  go_wp2
  refine at_world (fun W2 hW => ?_)
  replace hb0 : Below w.heap.size w W2 := by rw [hW]; exact hb0.alloc hb0.size _
  replace h3 : Blk W2 w5.heap.size 27 #[.int .u64 x4.a0, .int .u64 x4.a1, .int .u64 x4.a2, .int .u64 x4.a3, .int .u64 x4.a4] := by
    rw [hW]
    exact h3.alloc _
  clear hW hlt3 h3lt
  refine wp_region_grow2 27 (fun k => Nat.beq k 0 || (Nat.ble 24 k && Nat.ble k 49)) _ [] (fun j x' q => (awL x4 m1 i0 bm).getD j (fun _ _ => True) x' q) (fun _ => false) (fun f => #[f 0, .pointer (some ⟨w2.heap.size, 0, none⟩), .bool false, .pointer (some ⟨w5.heap.size, 0, none⟩), .bool true, .pointer (some ⟨w8.heap.size, 0, none⟩), .bool false, .tuple #[.agg #[.int .u64 0, .int .u64 0, .int .u64 0, .int .u64 0, .int .u64 0], .bool false], .slice (some ⟨g1, 0, none⟩) 32 32, .tuple #[.agg #[.int .u64 0, .int .u64 0, .int .u64 0, .int .u64 0, .int .u64 0], .bool false], .agg #[.int .u64 0, .int .u64 0, .int .u64 0, .int .u64 0, .int .u64 0], .bool false, .tuple #[.agg #[.int .u64 x4.a0, .int .u64 x4.a1, .int .u64 x4.a2, .int .u64 x4.a3, .int .u64 x4.a4], .bool true], .agg #[.int .u64 4, .int .u64 0, .int .u64 0, .int .u64 0, .int .u64 0], .agg #[.int .u64 1, .int .u64 0, .int .u64 0, .int .u64 0, .int .u64 0], .tuple #[.agg #[.int .u64 x4.a0, .int .u64 x4.a1, .int .u64 x4.a2, .int .u64 x4.a3, .int .u64 x4.a4], .bool true], .agg #[.int .u64 x4.a0, .int .u64 x4.a1, .int .u64 x4.a2, .int .u64 x4.a3, .int .u64 x4.a4], .bool true, .tuple #[.agg #[.int .u64 x2.a0, .int .u64 x2.a1, .int .u64 x2.a2, .int .u64 x2.a3, .int .u64 x2.a4], .bool false], .agg #[.int .u64 2, .int .u64 0, .int .u64 0, .int .u64 0, .int .u64 0], .agg #[.int .u64 1, .int .u64 0, .int .u64 0, .int .u64 0, .int .u64 0], .tuple #[.agg #[.int .u64 x2.a0, .int .u64 x2.a1, .int .u64 x2.a2, .int .u64 x2.a3, .int .u64 x2.a4], .bool false], .agg #[.int .u64 x2.a0, .int .u64 x2.a1, .int .u64 x2.a2, .int .u64 x2.a3, .int .u64 x2.a4], .bool false, f 24, f 25, f 26, f 27, f 28, f 29, f 30, f 31, f 32, f 33, f 34, f 35, f 36, f 37, f 38, f 39, f 40, f 41, f 42, f 43, f 44, f 45, f 46, f 47, f 48, f 49]) (fun f => rfl) (by kernel_rfl) (by kernel_rfl) (by kernel_rfl) (by kernel_rfl) (by kernel_rfl) (awS _ _ _ _) (fun _ _ _ h => by cases h) ?_ ?_
  · refine steps2_cons ?_ ?_
    · intro f w1 hb hd Q hK
      clear hd
      have hK := Lib.hid hK
      go_wp2_with fail
      refine (one_v _).mono ?_
      rintro e w2 ⟨rfl, hb2⟩
      go_wp2
      exact hK.out _ _ rfl hb2 (fun h => by cases h)
    refine steps2_cons ?_ ?_
    · intro f w1 hb hd Q hK
      have e24 : f 24 = .agg #[.int .u64 1, .int .u64 0, .int .u64 0, .int .u64 0, .int .u64 0] := hd.1 rfl
      clear hd
      simp only [e24] at hK
      have hK := Lib.hid hK
      go_wp2_with fail
      refine (cneg.out _).mono ?_
      rintro e w2 ⟨rfl, hb2⟩
      go_wp2
      exact hK.out _ _ rfl hb2 (fun h => by cases h)
    refine steps2_cons ?_ ?_
    · intro f w1 hb hd Q hK
      have e25 : f 25 = .agg #[.int .u64 m1.a0, .int .u64 m1.a1, .int .u64 m1.a2, .int .u64 m1.a3, .int .u64 m1.a4] := hd.1 rfl
      clear hd
      simp only [e25] at hK
      have hK := Lib.hid hK
      go_wp2_with fail
      refine (cput.out _).mono ?_
      rintro e w2 ⟨g, -, rfl, hG, hb2⟩
      go_wp2
      exact hK.out _ _ ⟨g, rfl, hG⟩ hb2 (fun h => by cases h)
    refine steps2_cons ?_ ?_
    · intro f w1 hb hd Q hK
      clear hd
      have hK := Lib.hid hK
      go_wp2_with fail
      refine (edge_B (-1) (by decide) (by decide) _).mono ?_
      rintro e w2 ⟨g, -, rfl, hG, hb2⟩
      go_wp2
      exact hK.out _ _ ⟨g, rfl, hG⟩ hb2 (fun h => by cases h)
    refine steps2_cons ?_ ?_
    · intro f w1 hb hd Q hK
      obtain ⟨g26, e26, bk26⟩ := (hd.1 rfl : SlB (bm) (f 26) w1)
      obtain ⟨g27, e27, bk27⟩ := (hd.2.1 rfl : SlB (edgeB (-1)) (f 27) w1)
      clear hd
      simp only [e26, e27] at hK
      have hK := Lib.hid hK
      go_wp2_with fail
      refine (same_bytes g26 g27 _ _ _ bk26 bk27).mono ?_
      rintro e w2 ⟨rfl, hb2⟩
      go_wp2
      exact hK.out _ _ (by show Value.bool _ = _; rw [hsame.out]) hb2 (fun h => by cases h)
    refine steps2_cons ?_ ?_
    · intro f w1 hb hd Q hK
      have e28 : f 28 = .bool true := hd.1 rfl
      clear hd
      simp only [e28] at hK
      have hK := Lib.hid hK
      go_wp2
      exact hK.out _ _ rfl (Below.refl _ _) (fun h => by cases h)
    refine steps2_cons ?_ ?_
    · intro f w1 hb hd Q hK
      have e29 : f 29 = .bool true := hd.1 rfl
      clear hd
      simp only [e29] at hK
      have hK := Lib.hid hK
      go_wp2
      exact hK.out _ _ rfl (Below.refl _ _) (fun h => by cases h)
    refine steps2_cons ?_ ?_
    · intro f w1 hb hd Q hK
      have e30 : f 30 = .bool false := hd.1 rfl
      have e29 : f 29 = .bool true := hd.2.1 rfl
      clear hd
      simp only [e30, e29] at hK
      have hK := Lib.hid hK
      go_wp2
      exact hK.out _ _ rfl (Below.refl _ _) (fun h => by cases h)
    refine steps2_cons ?_ ?_
    · intro f w1 hb hd Q hK
      have e29 : f 29 = .bool true := hd.1 rfl
      have e31 : f 31 = .bool true := hd.2.1 rfl
      clear hd
      simp only [e29, e31] at hK
      have hK := Lib.hid hK
      go_wp2
      exact hK.out _ _ rfl (Below.refl _ _) (fun h => by cases h)
    refine steps2_cons ?_ ?_
    · intro f w1 hb hd Q hK
      have e32 : f 32 = .bool true := hd.1 rfl
      clear hd
      simp only [e32] at hK
      have hK := Lib.hid hK
      go_wp2
      exact hK.out _ _ rfl (Below.refl _ _) (fun h => by cases h)
    refine steps2_cons ?_ ?_
    · intro f w1 hb hd Q hK
      have e33 : f 33 = .bool true := hd.1 rfl
      clear hd
      simp only [e33] at hK
      have hK := Lib.hid hK
      go_wp2
      exact hK.out _ _ rfl (Below.refl _ _) (fun h => by cases h)
    refine steps2_cons ?_ ?_
    · intro f w1 hb hd Q hK
      have e33 : f 33 = .bool true := hd.1 rfl
      have e34 : f 34 = .bool true := hd.2.1 rfl
      clear hd
      simp only [e33, e34] at hK
      have hK := Lib.hid hK
      go_wp2
      exact hK.out _ _ rfl (Below.refl _ _) (fun h => by cases h)
    refine steps2_cons ?_ ?_
    · intro f w1 hb hd Q hK
      have e35 : f 35 = .bool true := hd.1 rfl
      clear hd
      simp only [e35] at hK
      have hK := Lib.hid hK
      go_wp2
      exact hK.out _ _ rfl (Below.refl _ _) (fun h => by cases h)
    refine steps2_cons ?_ ?_
    · intro f w1 hb hd Q hK
      have e36 : f 36 = .bool true := hd.1 rfl
      clear hd
      simp only [e36] at hK
      have hK := Lib.hid hK
      obtain ⟨c0, c1, c2, c3, c4⟩ := blk5 (h3.below hb)
      go_wp2
      exact hK.out _ _ rfl (Below.refl _ _) (fun h => by cases h)
    refine steps2_cons ?_ ?_
    · intro f w1 hb hd Q hK
      have e36 : f 36 = .bool true := hd.1 rfl
      clear hd
      simp only [e36] at hK
      have hK := Lib.hid hK
      go_wp2_with fail
      refine (small_v 2 _).mono ?_
      rintro e w2 ⟨rfl, hb2⟩
      go_wp2
      exact hK.out _ _ rfl hb2 (fun h => by cases h)
    refine steps2_cons ?_ ?_
    · intro f w1 hb hd Q hK
      have e37 : f 37 = .agg #[.int .u64 x4.a0, .int .u64 x4.a1, .int .u64 x4.a2, .int .u64 x4.a3, .int .u64 x4.a4] := hd.1 rfl
      have e38 : f 38 = .agg #[.int .u64 2, .int .u64 0, .int .u64 0, .int .u64 0, .int .u64 0] := hd.2.1 rfl
      have e36 : f 36 = .bool true := hd.2.2.2.1 rfl
      clear hd
      simp only [e37, e38, e36] at hK
      have hK := Lib.hid hK
      go_wp2_with fail
      refine (csame.out _).mono ?_
      rintro e w2 ⟨rfl, hb2⟩
      go_wp2
      exact hK.out _ _ rfl hb2 (fun h => by cases h)
    refine steps2_cons ?_ ?_
    · intro f w1 hb hd Q hK
      have e36 : f 36 = .bool true := hd.1 rfl
      have e39 : f 39 = .bool true := hd.2.1 rfl
      clear hd
      simp only [e36, e39] at hK
      have hK := Lib.hid hK
      go_wp2
      exact hK.out _ _ rfl (Below.refl _ _) (fun h => by cases h)
    refine steps2_cons ?_ ?_
    · intro f w1 hb hd Q hK
      have e40 : f 40 = .bool true := hd.1 rfl
      clear hd
      simp only [e40] at hK
      have hK := Lib.hid hK
      go_wp2
      exact hK.out _ _ rfl (Below.refl _ _) (fun h => by cases h)
    refine steps2_cons ?_ ?_
    · intro f w1 hb hd Q hK
      have e41 : f 41 = .bool true := hd.1 rfl
      clear hd
      simp only [e41] at hK
      have hK := Lib.hid hK
      go_wp2
      exact hK.out _ _ rfl (Below.refl _ _) (fun h => by cases h)
    refine steps2_cons ?_ ?_
    · intro f w1 hb hd Q hK
      have e42 : f 42 = .bool false := hd.1 rfl
      have e41 : f 41 = .bool true := hd.2.1 rfl
      clear hd
      simp only [e42, e41] at hK
      have hK := Lib.hid hK
      go_wp2
      exact hK.out _ _ rfl (Below.refl _ _) (fun h => by cases h)
    refine steps2_cons ?_ ?_
    · intro f w1 hb hd Q hK
      have e41 : f 41 = .bool true := hd.1 rfl
      have e43 : f 43 = .bool true := hd.2.1 rfl
      clear hd
      simp only [e41, e43] at hK
      have hK := Lib.hid hK
      go_wp2
      exact hK.out _ _ rfl (Below.refl _ _) (fun h => by cases h)
    refine steps2_cons ?_ ?_
    · intro f w1 hb hd Q hK
      have e44 : f 44 = .bool true := hd.1 rfl
      clear hd
      simp only [e44] at hK
      have hK := Lib.hid hK
      go_wp2
      exact hK.out _ _ rfl (Below.refl _ _) (fun h => by cases h)
    refine steps2_cons ?_ ?_
    · intro f w1 hb hd Q hK
      have e45 : f 45 = .bool true := hd.1 rfl
      clear hd
      simp only [e45] at hK
      have hK := Lib.hid hK
      go_wp2
      exact hK.out _ _ rfl (Below.refl _ _) (fun h => by cases h)
    refine steps2_cons ?_ ?_
    · intro f w1 hb hd Q hK
      have e46 : f 46 = .agg #[.int .u64 0, .int .u64 0, .int .u64 0, .int .u64 0, .int .u64 0] := hd.1 rfl
      have e45 : f 45 = .bool true := hd.2.1 rfl
      clear hd
      simp only [e46, e45] at hK
      have hK := Lib.hid hK
      go_wp2_with fail
      refine (cinv.out _).mono ?_
      rintro e w2 ⟨rfl, hb2⟩
      go_wp2
      exact hK.out _ _ rfl hb2 (fun h => by cases h)
    refine steps2_cons ?_ ?_
    · intro f w1 hb hd Q hK
      have e47 : f 47 = .agg #[.int .u64 i0.a0, .int .u64 i0.a1, .int .u64 i0.a2, .int .u64 i0.a3, .int .u64 i0.a4] := hd.1 rfl
      have e45 : f 45 = .bool true := hd.2.2.1 rfl
      clear hd
      simp only [e47, e45] at hK
      have hK := Lib.hid hK
      go_wp2_with fail
      refine (czero.out _).mono ?_
      rintro e w2 ⟨rfl, hb2⟩
      go_wp2
      exact hK.out _ _ rfl hb2 (fun h => by cases h)
    refine steps2_cons ?_ ?_
    · intro f w1 hb hd Q hK
      have e45 : f 45 = .bool true := hd.1 rfl
      have e48 : f 48 = .bool true := hd.2.1 rfl
      clear hd
      simp only [e45, e48] at hK
      have hK := Lib.hid hK
      go_wp2
      exact hK.out _ _ rfl (Below.refl _ _) (fun h => by cases h)
    refine steps2_cons ?_ ?_
    · intro f w1 hb hd Q hK
      have e49 : f 49 = .bool true := hd.1 rfl
      clear hd
      simp only [e49] at hK
      have hK := Lib.hid hK
      go_wp2
      exact hK.out _ _ rfl (Below.refl _ _) (fun h => by cases h)
    trivial
  · intro f w1 hb hf hne
    refine wpList_nil ?_
    have d0 : f 0 = .bool true := hf 26 _ _ (by decide) rfl rfl
    clear hf hne
    simp only [d0]
    go_wp2
    go_returns
    exact ⟨rfl, hb0.trans (hb.mono hb0.size)⟩
theorem awake_c (w : World) : Calls Tryz.prog 5 #[] w (PostV (.bool true) w) :=
  awake_g r41E r21E Fe.m1 Fe.inv0 _ root41_c root21_c neg1_v (put_B Fe.m1 Fe.m1_w) inv0_v zero0_v same41_v sameN w
end Go.Proofs.YtjejibojcjfleaaGreat
