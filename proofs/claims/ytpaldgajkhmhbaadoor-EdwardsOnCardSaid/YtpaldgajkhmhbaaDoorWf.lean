/- The walks of the reference's On. On of the reference said of numbers. The walks of the law's limbs and of Pick. The walk of the law EdwardsOn. -/
import Derived.Test.YtpaldgajkhmhbaaDoorWa
import Derived.Test.YtpaldgajkhmhbaaDoorZd
import Derived.Deep.CutBlock
namespace Go.Proofs.YtpaldgajkhmhbaaDoor
open Go.RowKit
def rkZ1L (z1 : Nat → Int) (n1 : Nat → Int) (G2 : Nat) : List (Value → World → Prop) := [
  Eq1 (.pointer (some ⟨G2, 32, none⟩)),
  Eq1 (.agg (av z1)),
  Eq1 (.agg (av n1)),
  Eq1 (.bool true)]
theorem rkZ1S (z1 : Nat → Int) (n1 : Nat → Int) (G2 : Nat) : ∀ j x' q q', (rkZ1L z1 n1 G2).getD j (fun _ _ => True) x' q → Below q.heap.size q q' → (rkZ1L z1 n1 G2).getD j (fun _ _ => True) x' q' := by
  refine sta_all _ ?_
  simp only [rkZ1L, List.mem_cons, forall_eq_or_imp, List.not_mem_nil, false_implies, implies_true, and_true]
  exact ⟨sta_eq _, sta_eq _, sta_eq _, sta_eq _⟩
set_option maxRecDepth 20000 in
set_option maxHeartbeats 8000000 in
theorem rOn_Z {x1 : Nat → Int} {y1 : Nat → Int} {z1 : Nat → Int} {t : Fe.E} {n1 : Nat → Int}
    (c1 : ∀ w, Calls Tryd.prog 63 #[.int .u64 0] w (PostN n1 w))
    (q1 : eqN z1 n1 = true)
    (w : World) : Calls Tryd.prog 27 #[.agg (tcf x1 y1 z1), .agg #[.int .u64 t.a0, .int .u64 t.a1, .int .u64 t.a2, .int .u64 t.a3, .int .u64 t.a4]] w (PostV (.bool false) w) := by
  replace c1 := Lib.hid c1
  replace q1 := Lib.hid q1
  go_enter Tryd.func27, Tryd.ntmps27
  go_wp2_with fail
  refine at_world (fun W0 hW => ?_)
  have k2 : Blk W0 (w.heap.size) 35 ((tcf x1 y1 z1)) := (by rw [hW]; exact (Blk.new _ _ _).alloc _)
  have k3 : Blk W0 (w.heap.size + 1) 26 (#[.int .u64 t.a0, .int .u64 t.a1, .int .u64 t.a2, .int .u64 t.a3, .int .u64 t.a4]) := (by rw [hW]; exact blk_at (by simp) (Blk.new _ _ _))
  have hb0 : Below w.heap.size w W0 := (by rw [hW]; go_grown)
  clear hW
  obtain ⟨G3, hG3⟩ : ∃ G3, G3 = w.heap.size + 1 := ⟨_, rfl⟩
  rw [← hG3] at k3 ⊢
  obtain ⟨G2, hG2⟩ : ∃ G2, G2 = w.heap.size := ⟨_, rfl⟩
  rw [← hG2] at k2 ⊢
  have loG2 : w.heap.size ≤ G2 := (by omega)
  have loG3 : w.heap.size ≤ G3 := (by omega)
  clear hG2 hG3
  refine wp_region_grow2 4 (fun k => (Nat.ble 10 k && Nat.ble k 13)) _ [] (fun j x' q => (rkZ1L z1 n1 G2).getD j (fun _ _ => True) x' q) (fun _ => false) (fun f => #[.agg (tcf x1 y1 z1), .agg #[.int .u64 t.a0, .int .u64 t.a1, .int .u64 t.a2, .int .u64 t.a3, .int .u64 t.a4], .pointer (some ⟨G2, 0, none⟩), .pointer (some ⟨G3, 0, none⟩), .bool false, undef, undef, undef, undef, undef, f 10, f 11, f 12, f 13, undef, undef, undef, undef, undef, undef, undef, undef, undef, undef, undef, undef, undef, undef, undef, undef, undef, undef, undef, undef, undef, undef, undef, undef, undef, undef, undef, undef, undef, undef, undef, undef, undef, undef, undef, undef, undef, undef, undef, undef, undef, undef, undef, undef, undef]) (fun f => rfl) (by kernel_rfl) (by kernel_rfl) (by kernel_rfl) (by kernel_rfl) (by kernel_rfl) (rkZ1S _ _ _) (fun _ _ _ h => by cases h) ?_ ?_
  · refine steps2_cons ?_ ?_
    · as_aux_lemma =>
      intro f w1 hb hd Q hK
      clear hd
      have hK := Lib.hid hK
      go_wp2
      exact hK.out _ _ rfl (Below.refl _ _) (fun h => by cases h)
    refine steps2_cons ?_ ?_
    · as_aux_lemma =>
      intro f w1 hb hd Q hK
      have e10 : f 10 = .pointer (some ⟨G2, 32, none⟩) := hd.1 rfl
      clear hd
      simp only [e10] at hK
      have hK := Lib.hid hK
      refine ldTz (by simp only [e10]; kernel_rfl) rfl e10 (k2.below hb) ?_
      refine wpList_nil ?_
      simp only [e10]
      exact hK.out _ _ rfl (Below.refl _ _) (fun h => by cases h)
    refine steps2_cons ?_ ?_
    · as_aux_lemma =>
      intro f w1 hb hd Q hK
      clear hd
      have hK := Lib.hid hK
      go_wp2_with fail
      refine (c1.out _).mono ?_
      rintro e w2 ⟨rfl, hb2⟩
      go_wp2
      exact hK.out _ _ rfl hb2 (fun h => by cases h)
    refine steps2_cons ?_ ?_
    · as_aux_lemma =>
      intro f w1 hb hd Q hK
      have e11 : f 11 = .agg (av z1) := hd.1 rfl
      have e12 : f 12 = .agg (av n1) := hd.2.1 rfl
      clear hd
      simp only [e11, e12] at hK
      have hK := Lib.hid hK
      have hq := fun w => (run_eql_N z1 n1 w).trans (by rw [q1.out])
      go_wp2
      exact hK.out _ _ rfl (Below.refl _ _) (fun h => by cases h)
    trivial
  intro f1 vd1 hb hf hne
  refine wpList_nil ?_
  have d13 : f1 13 = .bool true := hf 3 _ _ (by decide) rfl rfl
  clear hf hne
  simp only [d13]
  clear d13
  replace k2 := k2.below hb
  replace k3 := k3.below hb
  replace hb0 := hb0.trans (hb.mono hb0.size)
  clear hb
  go_wp2
  go_returns
  exact ⟨rfl, hb0⟩
def rkT1L (z1 : Nat → Int) (n1 : Nat → Int) (G2 : Nat) : List (Value → World → Prop) := [
  Eq1 (.pointer (some ⟨G2, 32, none⟩)),
  Eq1 (.agg (av z1)),
  Eq1 (.agg (av n1)),
  Eq1 (.bool false)]
theorem rkT1S (z1 : Nat → Int) (n1 : Nat → Int) (G2 : Nat) : ∀ j x' q q', (rkT1L z1 n1 G2).getD j (fun _ _ => True) x' q → Below q.heap.size q q' → (rkT1L z1 n1 G2).getD j (fun _ _ => True) x' q' := by
  refine sta_all _ ?_
  simp only [rkT1L, List.mem_cons, forall_eq_or_imp, List.not_mem_nil, false_implies, implies_true, and_true]
  exact ⟨sta_eq _, sta_eq _, sta_eq _, sta_eq _⟩
def rkT3L (x1 : Nat → Int) (y1 : Nat → Int) (z1 : Nat → Int) (n2 : Nat → Int) (n3 : Nat → Int) (n4 : Nat → Int) (G2 : Nat) (B0 : Nat) : List (Value → World → Prop) := [
  Eq1 (.pointer (some ⟨G2, 0, none⟩)),
  Eq1 (.agg (av x1)),
  Eq1 (.pointer (some ⟨G2, 0, none⟩)),
  Eq1 (.agg (av x1)),
  Eq1 (.agg (av n2)),
  Eq1 (.pointer (some ⟨G2, 16, none⟩)),
  Eq1 (.agg (av y1)),
  Eq1 (.pointer (some ⟨G2, 16, none⟩)),
  Eq1 (.agg (av y1)),
  Eq1 (.agg (av n3)),
  Eq1 (.pointer (some ⟨G2, 32, none⟩)),
  Eq1 (.agg (av z1)),
  Eq1 (.pointer (some ⟨G2, 32, none⟩)),
  Eq1 (.agg (av z1)),
  Eq1 (.agg (av n4)),
  NewB B0 33 #[.int .u64 0, .int .u64 0, .int .u64 0, .int .u64 0, .int .u64 0, .int .u64 0, .int .u64 0, .int .u64 0, .int .u64 0, .int .u64 0, .int .u64 0, .int .u64 0, .int .u64 0, .int .u64 0, .int .u64 0, .int .u64 0],
  NewB B0 33 #[.int .u64 0, .int .u64 0, .int .u64 0, .int .u64 0, .int .u64 0, .int .u64 0, .int .u64 0, .int .u64 0, .int .u64 0, .int .u64 0, .int .u64 0, .int .u64 0, .int .u64 0, .int .u64 0, .int .u64 0, .int .u64 0],
  NewB B0 33 #[.int .u64 0, .int .u64 0, .int .u64 0, .int .u64 0, .int .u64 0, .int .u64 0, .int .u64 0, .int .u64 0, .int .u64 0, .int .u64 0, .int .u64 0, .int .u64 0, .int .u64 0, .int .u64 0, .int .u64 0, .int .u64 0]]
theorem rkT3S (x1 : Nat → Int) (y1 : Nat → Int) (z1 : Nat → Int) (n2 : Nat → Int) (n3 : Nat → Int) (n4 : Nat → Int) (G2 : Nat) (B0 : Nat) : ∀ j x' q q', (rkT3L x1 y1 z1 n2 n3 n4 G2 B0).getD j (fun _ _ => True) x' q → Below q.heap.size q q' → (rkT3L x1 y1 z1 n2 n3 n4 G2 B0).getD j (fun _ _ => True) x' q' := by
  refine sta_all _ ?_
  simp only [rkT3L, List.mem_cons, forall_eq_or_imp, List.not_mem_nil, false_implies, implies_true, and_true]
  exact ⟨sta_eq _, sta_eq _, sta_eq _, sta_eq _, sta_eq _, sta_eq _, sta_eq _, sta_eq _, sta_eq _, sta_eq _, sta_eq _, sta_eq _, sta_eq _, sta_eq _, sta_eq _, sta_new _ _ _, sta_new _ _ _, sta_new _ _ _⟩
theorem rkT3O (x1 : Nat → Int) (y1 : Nat → Int) (z1 : Nat → Int) (n2 : Nat → Int) (n3 : Nat → Int) (n4 : Nat → Int) (G2 : Nat) (B0 : Nat) : ∀ j x' q, (fun j => j == 15 || j == 16 || j == 17) j = true → (rkT3L x1 y1 z1 n2 n3 n4 G2 B0).getD j (fun _ _ => True) x' q → ∀ g, x' = .pointer (some ⟨g, 0, none⟩) → g < q.heap.size := by
  intro j x' q hj hv g e
  have hj' : j = 15 ∨ j = 16 ∨ j = 17 := by simpa only [Bool.or_eq_true, beq_iff_eq, or_assoc] using hj
  rcases hj' with rfl | rfl | rfl
  all_goals exact new_lt hv e
def rkT4L (n2 : Nat → Int) (n3 : Nat → Int) (n4 : Nat → Int) (n5 : Nat → Int) (n6 : Nat → Int) (B0 : Nat) : List (Value → World → Prop) := [
  Eq1 (.agg (av n3)),
  Eq1 (.agg (av n2)),
  Eq1 (.agg (av n5)),
  Eq1 (.agg (av n4)),
  Eq1 (.agg (av n6)),
  NewB B0 33 #[.int .u64 0, .int .u64 0, .int .u64 0, .int .u64 0, .int .u64 0, .int .u64 0, .int .u64 0, .int .u64 0, .int .u64 0, .int .u64 0, .int .u64 0, .int .u64 0, .int .u64 0, .int .u64 0, .int .u64 0, .int .u64 0]]
theorem rkT4S (n2 : Nat → Int) (n3 : Nat → Int) (n4 : Nat → Int) (n5 : Nat → Int) (n6 : Nat → Int) (B0 : Nat) : ∀ j x' q q', (rkT4L n2 n3 n4 n5 n6 B0).getD j (fun _ _ => True) x' q → Below q.heap.size q q' → (rkT4L n2 n3 n4 n5 n6 B0).getD j (fun _ _ => True) x' q' := by
  refine sta_all _ ?_
  simp only [rkT4L, List.mem_cons, forall_eq_or_imp, List.not_mem_nil, false_implies, implies_true, and_true]
  exact ⟨sta_eq _, sta_eq _, sta_eq _, sta_eq _, sta_eq _, sta_new _ _ _⟩
theorem rkT4O (n2 : Nat → Int) (n3 : Nat → Int) (n4 : Nat → Int) (n5 : Nat → Int) (n6 : Nat → Int) (B0 : Nat) : ∀ j x' q, (fun j => j == 5) j = true → (rkT4L n2 n3 n4 n5 n6 B0).getD j (fun _ _ => True) x' q → ∀ g, x' = .pointer (some ⟨g, 0, none⟩) → g < q.heap.size := by
  intro j x' q hj hv g e
  have hj' : j = 5 := by simpa only [Bool.or_eq_true, beq_iff_eq, or_assoc] using hj
  subst hj'
  all_goals exact new_lt hv e
def rkT5L (n2 : Nat → Int) (n3 : Nat → Int) (n4 : Nat → Int) (n7 : Nat → Int) (n8 : Nat → Int) (n9 : Nat → Int) (n10 : Nat → Int) (n11 : Nat → Int) (B0 : Nat) : List (Value → World → Prop) := [
  Eq1 (.agg (av n4)),
  Eq1 (.agg (av n4)),
  Eq1 (.agg (av n7)),
  Eq1 (.agg (av n8)),
  Eq1 (.agg (av n2)),
  Eq1 (.agg (av n3)),
  Eq1 (.agg (av n9)),
  Eq1 (.agg (av n10)),
  Eq1 (.agg (av n11)),
  NewB B0 33 #[.int .u64 0, .int .u64 0, .int .u64 0, .int .u64 0, .int .u64 0, .int .u64 0, .int .u64 0, .int .u64 0, .int .u64 0, .int .u64 0, .int .u64 0, .int .u64 0, .int .u64 0, .int .u64 0, .int .u64 0, .int .u64 0]]
theorem rkT5S (n2 : Nat → Int) (n3 : Nat → Int) (n4 : Nat → Int) (n7 : Nat → Int) (n8 : Nat → Int) (n9 : Nat → Int) (n10 : Nat → Int) (n11 : Nat → Int) (B0 : Nat) : ∀ j x' q q', (rkT5L n2 n3 n4 n7 n8 n9 n10 n11 B0).getD j (fun _ _ => True) x' q → Below q.heap.size q q' → (rkT5L n2 n3 n4 n7 n8 n9 n10 n11 B0).getD j (fun _ _ => True) x' q' := by
  refine sta_all _ ?_
  simp only [rkT5L, List.mem_cons, forall_eq_or_imp, List.not_mem_nil, false_implies, implies_true, and_true]
  exact ⟨sta_eq _, sta_eq _, sta_eq _, sta_eq _, sta_eq _, sta_eq _, sta_eq _, sta_eq _, sta_eq _, sta_new _ _ _⟩
theorem rkT5O (n2 : Nat → Int) (n3 : Nat → Int) (n4 : Nat → Int) (n7 : Nat → Int) (n8 : Nat → Int) (n9 : Nat → Int) (n10 : Nat → Int) (n11 : Nat → Int) (B0 : Nat) : ∀ j x' q, (fun j => j == 9) j = true → (rkT5L n2 n3 n4 n7 n8 n9 n10 n11 B0).getD j (fun _ _ => True) x' q → ∀ g, x' = .pointer (some ⟨g, 0, none⟩) → g < q.heap.size := by
  intro j x' q hj hv g e
  have hj' : j = 9 := by simpa only [Bool.or_eq_true, beq_iff_eq, or_assoc] using hj
  subst hj'
  all_goals exact new_lt hv e
def rkT6L (x1 : Nat → Int) (y1 : Nat → Int) (z1 : Nat → Int) (t : Fe.E) (n6 : Nat → Int) (n11 : Nat → Int) (n12 : Nat → Int) (n13 : Nat → Int) (n14 : Nat → Int) (b : Bool) (G2 : Nat) : List (Value → World → Prop) := [
  Eq1 (.agg (av n6)),
  Eq1 (.agg (av n11)),
  Eq1 (.bool true),
  Eq1 (.bool true),
  Eq1 (.agg #[.int .u64 t.a0, .int .u64 t.a1, .int .u64 t.a2, .int .u64 t.a3, .int .u64 t.a4]),
  Eq1 (.agg (av n12)),
  Eq1 (.pointer (some ⟨G2, 32, none⟩)),
  Eq1 (.agg (av z1)),
  Eq1 (.agg (av n13)),
  Eq1 (.pointer (some ⟨G2, 0, none⟩)),
  Eq1 (.agg (av x1)),
  Eq1 (.pointer (some ⟨G2, 16, none⟩)),
  Eq1 (.agg (av y1)),
  Eq1 (.agg (av n14)),
  Eq1 (.bool b),
  Eq1 (.bool b),
  Eq1 (.bool b)]
theorem rkT6S (x1 : Nat → Int) (y1 : Nat → Int) (z1 : Nat → Int) (t : Fe.E) (n6 : Nat → Int) (n11 : Nat → Int) (n12 : Nat → Int) (n13 : Nat → Int) (n14 : Nat → Int) (b : Bool) (G2 : Nat) : ∀ j x' q q', (rkT6L x1 y1 z1 t n6 n11 n12 n13 n14 b G2).getD j (fun _ _ => True) x' q → Below q.heap.size q q' → (rkT6L x1 y1 z1 t n6 n11 n12 n13 n14 b G2).getD j (fun _ _ => True) x' q' := by
  refine sta_all _ ?_
  simp only [rkT6L, List.mem_cons, forall_eq_or_imp, List.not_mem_nil, false_implies, implies_true, and_true]
  exact ⟨sta_eq _, sta_eq _, sta_eq _, sta_eq _, sta_eq _, sta_eq _, sta_eq _, sta_eq _, sta_eq _, sta_eq _, sta_eq _, sta_eq _, sta_eq _, sta_eq _, sta_eq _, sta_eq _, sta_eq _⟩
set_option maxRecDepth 20000 in
set_option maxHeartbeats 8000000 in
theorem rOn_T {x1 : Nat → Int} {y1 : Nat → Int} {z1 : Nat → Int} {t : Fe.E} {n1 : Nat → Int} {n2 : Nat → Int} {n3 : Nat → Int} {n4 : Nat → Int} {n5 : Nat → Int} {n6 : Nat → Int} {n7 : Nat → Int} {n8 : Nat → Int} {n9 : Nat → Int} {n10 : Nat → Int} {n11 : Nat → Int} {n12 : Nat → Int} {n13 : Nat → Int} {n14 : Nat → Int} {b : Bool}
    (c1 : ∀ w, Calls Tryd.prog 63 #[.int .u64 0] w (PostN n1 w))
    (q1 : eqN z1 n1 = false)
    (c2 : ∀ w, Calls Tryd.prog 60 #[.agg (av x1), .agg (av x1)] w (PostN n2 w))
    (c3 : ∀ w, Calls Tryd.prog 60 #[.agg (av y1), .agg (av y1)] w (PostN n3 w))
    (c4 : ∀ w, Calls Tryd.prog 60 #[.agg (av z1), .agg (av z1)] w (PostN n4 w))
    (c5 : ∀ w, Calls Tryd.prog 62 #[.agg (av n3), .agg (av n2)] w (PostN n5 w))
    (c6 : ∀ w, Calls Tryd.prog 60 #[.agg (av n5), .agg (av n4)] w (PostN n6 w))
    (c7 : ∀ w, Calls Tryd.prog 60 #[.agg (av n4), .agg (av n4)] w (PostN n7 w))
    (c8 : ∀ w, Calls Tryd.prog 38 #[] w (PostN n8 w))
    (c9 : ∀ w, Calls Tryd.prog 60 #[.agg (av n2), .agg (av n3)] w (PostN n9 w))
    (c10 : ∀ w, Calls Tryd.prog 60 #[.agg (av n8), .agg (av n9)] w (PostN n10 w))
    (c11 : ∀ w, Calls Tryd.prog 64 #[.agg (av n7), .agg (av n10)] w (PostN n11 w))
    (q2 : eqN n6 n11 = true)
    (c12 : ∀ w, Calls Tryd.prog 73 #[.agg #[.int .u64 t.a0, .int .u64 t.a1, .int .u64 t.a2, .int .u64 t.a3, .int .u64 t.a4]] w (PostN n12 w))
    (c13 : ∀ w, Calls Tryd.prog 60 #[.agg (av n12), .agg (av z1)] w (PostN n13 w))
    (c14 : ∀ w, Calls Tryd.prog 60 #[.agg (av x1), .agg (av y1)] w (PostN n14 w))
    (q3 : eqN n13 n14 = b)
    (w : World) : Calls Tryd.prog 27 #[.agg (tcf x1 y1 z1), .agg #[.int .u64 t.a0, .int .u64 t.a1, .int .u64 t.a2, .int .u64 t.a3, .int .u64 t.a4]] w (PostV (.bool b) w) := by
  replace c1 := Lib.hid c1
  replace q1 := Lib.hid q1
  replace c2 := Lib.hid c2
  replace c3 := Lib.hid c3
  replace c4 := Lib.hid c4
  replace c5 := Lib.hid c5
  replace c6 := Lib.hid c6
  replace c7 := Lib.hid c7
  replace c8 := Lib.hid c8
  replace c9 := Lib.hid c9
  replace c10 := Lib.hid c10
  replace c11 := Lib.hid c11
  replace q2 := Lib.hid q2
  replace c12 := Lib.hid c12
  replace c13 := Lib.hid c13
  replace c14 := Lib.hid c14
  replace q3 := Lib.hid q3
  go_enter Tryd.func27, Tryd.ntmps27
  go_wp2_with fail
  refine at_world (fun W0 hW => ?_)
  have k2 : Blk W0 (w.heap.size) 35 ((tcf x1 y1 z1)) := (by rw [hW]; exact (Blk.new _ _ _).alloc _)
  have k3 : Blk W0 (w.heap.size + 1) 26 (#[.int .u64 t.a0, .int .u64 t.a1, .int .u64 t.a2, .int .u64 t.a3, .int .u64 t.a4]) := (by rw [hW]; exact blk_at (by simp) (Blk.new _ _ _))
  have hb0 : Below w.heap.size w W0 := (by rw [hW]; go_grown)
  clear hW
  obtain ⟨G3, hG3⟩ : ∃ G3, G3 = w.heap.size + 1 := ⟨_, rfl⟩
  rw [← hG3] at k3 ⊢
  obtain ⟨G2, hG2⟩ : ∃ G2, G2 = w.heap.size := ⟨_, rfl⟩
  rw [← hG2] at k2 ⊢
  have loG2 : w.heap.size ≤ G2 := (by omega)
  have loG3 : w.heap.size ≤ G3 := (by omega)
  clear hG2 hG3
  refine wp_region_grow2 4 (fun k => (Nat.ble 10 k && Nat.ble k 13)) _ [] (fun j x' q => (rkT1L z1 n1 G2).getD j (fun _ _ => True) x' q) (fun _ => false) (fun f => #[.agg (tcf x1 y1 z1), .agg #[.int .u64 t.a0, .int .u64 t.a1, .int .u64 t.a2, .int .u64 t.a3, .int .u64 t.a4], .pointer (some ⟨G2, 0, none⟩), .pointer (some ⟨G3, 0, none⟩), .bool false, undef, undef, undef, undef, undef, f 10, f 11, f 12, f 13, undef, undef, undef, undef, undef, undef, undef, undef, undef, undef, undef, undef, undef, undef, undef, undef, undef, undef, undef, undef, undef, undef, undef, undef, undef, undef, undef, undef, undef, undef, undef, undef, undef, undef, undef, undef, undef, undef, undef, undef, undef, undef, undef, undef, undef]) (fun f => rfl) (by kernel_rfl) (by kernel_rfl) (by kernel_rfl) (by kernel_rfl) (by kernel_rfl) (rkT1S _ _ _) (fun _ _ _ h => by cases h) ?_ ?_
  · refine steps2_cons ?_ ?_
    · as_aux_lemma =>
      intro f w1 hb hd Q hK
      clear hd
      have hK := Lib.hid hK
      go_wp2
      exact hK.out _ _ rfl (Below.refl _ _) (fun h => by cases h)
    refine steps2_cons ?_ ?_
    · as_aux_lemma =>
      intro f w1 hb hd Q hK
      have e10 : f 10 = .pointer (some ⟨G2, 32, none⟩) := hd.1 rfl
      clear hd
      simp only [e10] at hK
      have hK := Lib.hid hK
      refine ldTz (by simp only [e10]; kernel_rfl) rfl e10 (k2.below hb) ?_
      refine wpList_nil ?_
      simp only [e10]
      exact hK.out _ _ rfl (Below.refl _ _) (fun h => by cases h)
    refine steps2_cons ?_ ?_
    · as_aux_lemma =>
      intro f w1 hb hd Q hK
      clear hd
      have hK := Lib.hid hK
      go_wp2_with fail
      refine (c1.out _).mono ?_
      rintro e w2 ⟨rfl, hb2⟩
      go_wp2
      exact hK.out _ _ rfl hb2 (fun h => by cases h)
    refine steps2_cons ?_ ?_
    · as_aux_lemma =>
      intro f w1 hb hd Q hK
      have e11 : f 11 = .agg (av z1) := hd.1 rfl
      have e12 : f 12 = .agg (av n1) := hd.2.1 rfl
      clear hd
      simp only [e11, e12] at hK
      have hK := Lib.hid hK
      have hq := fun w => (run_eql_N z1 n1 w).trans (by rw [q1.out])
      go_wp2
      exact hK.out _ _ rfl (Below.refl _ _) (fun h => by cases h)
    trivial
  intro f1 vd1 hb hf hne
  refine wpList_nil ?_
  have d13 : f1 13 = .bool false := hf 3 _ _ (by decide) rfl rfl
  clear hf hne
  simp only [d13]
  clear d13
  replace k2 := k2.below hb
  replace k3 := k3.below hb
  replace hb0 := hb0.trans (hb.mono hb0.size)
  clear hb
  go_wp2
  refine wp_region_grow2 18 (fun k => (Nat.ble 5 k && Nat.ble k 7) || (Nat.ble 14 k && Nat.ble k 28)) _ [] (fun j x' q => (rkT3L x1 y1 z1 n2 n3 n4 G2 vd1.heap.size).getD j (fun _ _ => True) x' q) (fun j => j == 15 || j == 16 || j == 17) (fun f => #[.agg (tcf x1 y1 z1), .agg #[.int .u64 t.a0, .int .u64 t.a1, .int .u64 t.a2, .int .u64 t.a3, .int .u64 t.a4], .pointer (some ⟨G2, 0, none⟩), .pointer (some ⟨G3, 0, none⟩), .bool false, f 5, f 6, f 7, undef, undef, f1 10, f1 11, f1 12, .bool false, f 14, f 15, f 16, f 17, f 18, f 19, f 20, f 21, f 22, f 23, f 24, f 25, f 26, f 27, f 28, undef, undef, undef, undef, undef, undef, undef, undef, undef, undef, undef, undef, undef, undef, undef, undef, undef, undef, undef, undef, undef, undef, undef, undef, undef, undef, undef, undef, undef, undef]) (fun f => rfl) (by kernel_rfl) (by kernel_rfl) (by kernel_rfl) (by kernel_rfl) (by kernel_rfl) (rkT3S _ _ _ _ _ _ _ _) (rkT3O _ _ _ _ _ _ _ _) ?_ ?_
  · refine steps2_cons ?_ ?_
    · as_aux_lemma =>
      intro f w1 hb hd Q hK
      clear hd
      have hK := Lib.hid hK
      go_wp2
      exact hK.out _ _ rfl (Below.refl _ _) (fun h => by cases h)
    refine steps2_cons ?_ ?_
    · as_aux_lemma =>
      intro f w1 hb hd Q hK
      have e14 : f 14 = .pointer (some ⟨G2, 0, none⟩) := hd.1 rfl
      clear hd
      simp only [e14] at hK
      have hK := Lib.hid hK
      refine ldTx (by simp only [e14]; kernel_rfl) rfl e14 (k2.below hb) ?_
      refine wpList_nil ?_
      simp only [e14]
      exact hK.out _ _ rfl (Below.refl _ _) (fun h => by cases h)
    refine steps2_cons ?_ ?_
    · as_aux_lemma =>
      intro f w1 hb hd Q hK
      clear hd
      have hK := Lib.hid hK
      go_wp2
      exact hK.out _ _ rfl (Below.refl _ _) (fun h => by cases h)
    refine steps2_cons ?_ ?_
    · as_aux_lemma =>
      intro f w1 hb hd Q hK
      have e16 : f 16 = .pointer (some ⟨G2, 0, none⟩) := hd.1 rfl
      clear hd
      simp only [e16] at hK
      have hK := Lib.hid hK
      refine ldTx (by simp only [e16]; kernel_rfl) rfl e16 (k2.below hb) ?_
      refine wpList_nil ?_
      simp only [e16]
      exact hK.out _ _ rfl (Below.refl _ _) (fun h => by cases h)
    refine steps2_cons ?_ ?_
    · as_aux_lemma =>
      intro f w1 hb hd Q hK
      have e15 : f 15 = .agg (av x1) := hd.1 rfl
      have e17 : f 17 = .agg (av x1) := hd.2.1 rfl
      clear hd
      simp only [e15, e17] at hK
      have hK := Lib.hid hK
      go_wp2_with fail
      refine (c2.out _).mono ?_
      rintro e w2 ⟨rfl, hb2⟩
      go_wp2
      exact hK.out _ _ rfl hb2 (fun h => by cases h)
    refine steps2_cons ?_ ?_
    · as_aux_lemma =>
      intro f w1 hb hd Q hK
      clear hd
      have hK := Lib.hid hK
      go_wp2
      exact hK.out _ _ rfl (Below.refl _ _) (fun h => by cases h)
    refine steps2_cons ?_ ?_
    · as_aux_lemma =>
      intro f w1 hb hd Q hK
      have e19 : f 19 = .pointer (some ⟨G2, 16, none⟩) := hd.1 rfl
      clear hd
      simp only [e19] at hK
      have hK := Lib.hid hK
      refine ldTy (by simp only [e19]; kernel_rfl) rfl e19 (k2.below hb) ?_
      refine wpList_nil ?_
      simp only [e19]
      exact hK.out _ _ rfl (Below.refl _ _) (fun h => by cases h)
    refine steps2_cons ?_ ?_
    · as_aux_lemma =>
      intro f w1 hb hd Q hK
      clear hd
      have hK := Lib.hid hK
      go_wp2
      exact hK.out _ _ rfl (Below.refl _ _) (fun h => by cases h)
    refine steps2_cons ?_ ?_
    · as_aux_lemma =>
      intro f w1 hb hd Q hK
      have e21 : f 21 = .pointer (some ⟨G2, 16, none⟩) := hd.1 rfl
      clear hd
      simp only [e21] at hK
      have hK := Lib.hid hK
      refine ldTy (by simp only [e21]; kernel_rfl) rfl e21 (k2.below hb) ?_
      refine wpList_nil ?_
      simp only [e21]
      exact hK.out _ _ rfl (Below.refl _ _) (fun h => by cases h)
    refine steps2_cons ?_ ?_
    · as_aux_lemma =>
      intro f w1 hb hd Q hK
      have e20 : f 20 = .agg (av y1) := hd.1 rfl
      have e22 : f 22 = .agg (av y1) := hd.2.1 rfl
      clear hd
      simp only [e20, e22] at hK
      have hK := Lib.hid hK
      go_wp2_with fail
      refine (c3.out _).mono ?_
      rintro e w2 ⟨rfl, hb2⟩
      go_wp2
      exact hK.out _ _ rfl hb2 (fun h => by cases h)
    refine steps2_cons ?_ ?_
    · as_aux_lemma =>
      intro f w1 hb hd Q hK
      clear hd
      have hK := Lib.hid hK
      go_wp2
      exact hK.out _ _ rfl (Below.refl _ _) (fun h => by cases h)
    refine steps2_cons ?_ ?_
    · as_aux_lemma =>
      intro f w1 hb hd Q hK
      have e24 : f 24 = .pointer (some ⟨G2, 32, none⟩) := hd.1 rfl
      clear hd
      simp only [e24] at hK
      have hK := Lib.hid hK
      refine ldTz (by simp only [e24]; kernel_rfl) rfl e24 (k2.below hb) ?_
      refine wpList_nil ?_
      simp only [e24]
      exact hK.out _ _ rfl (Below.refl _ _) (fun h => by cases h)
    refine steps2_cons ?_ ?_
    · as_aux_lemma =>
      intro f w1 hb hd Q hK
      clear hd
      have hK := Lib.hid hK
      go_wp2
      exact hK.out _ _ rfl (Below.refl _ _) (fun h => by cases h)
    refine steps2_cons ?_ ?_
    · as_aux_lemma =>
      intro f w1 hb hd Q hK
      have e26 : f 26 = .pointer (some ⟨G2, 32, none⟩) := hd.1 rfl
      clear hd
      simp only [e26] at hK
      have hK := Lib.hid hK
      refine ldTz (by simp only [e26]; kernel_rfl) rfl e26 (k2.below hb) ?_
      refine wpList_nil ?_
      simp only [e26]
      exact hK.out _ _ rfl (Below.refl _ _) (fun h => by cases h)
    refine steps2_cons ?_ ?_
    · as_aux_lemma =>
      intro f w1 hb hd Q hK
      have e25 : f 25 = .agg (av z1) := hd.1 rfl
      have e27 : f 27 = .agg (av z1) := hd.2.1 rfl
      clear hd
      simp only [e25, e27] at hK
      have hK := Lib.hid hK
      go_wp2_with fail
      refine (c4.out _).mono ?_
      rintro e w2 ⟨rfl, hb2⟩
      go_wp2
      exact hK.out _ _ rfl hb2 (fun h => by cases h)
    refine steps2_cons ?_ ?_
    · as_aux_lemma =>
      intro f w1 hb hd Q hK
      clear hd
      have hK := Lib.hid hK
      have hsz := hb.size
      go_wp2
      exact hK.out _ _ ⟨_, rfl, hsz, Blk.new _ _ _⟩ ((Below.refl _ _).alloc (Nat.le_refl _) _) (fun _ => ⟨_, rfl, Nat.le_refl _⟩)
    refine steps2_cons ?_ ?_
    · as_aux_lemma =>
      intro f w1 hb hd Q hK
      clear hd
      have hK := Lib.hid hK
      have hsz := hb.size
      go_wp2
      exact hK.out _ _ ⟨_, rfl, hsz, Blk.new _ _ _⟩ ((Below.refl _ _).alloc (Nat.le_refl _) _) (fun _ => ⟨_, rfl, Nat.le_refl _⟩)
    refine steps2_cons ?_ ?_
    · as_aux_lemma =>
      intro f w1 hb hd Q hK
      clear hd
      have hK := Lib.hid hK
      have hsz := hb.size
      go_wp2
      exact hK.out _ _ ⟨_, rfl, hsz, Blk.new _ _ _⟩ ((Below.refl _ _).alloc (Nat.le_refl _) _) (fun _ => ⟨_, rfl, Nat.le_refl _⟩)
    trivial
  intro f2 vd2 hb hf hne
  obtain ⟨g5, d5, lo5, bk5⟩ : NewB vd1.heap.size 33 #[.int .u64 0, .int .u64 0, .int .u64 0, .int .u64 0, .int .u64 0, .int .u64 0, .int .u64 0, .int .u64 0, .int .u64 0, .int .u64 0, .int .u64 0, .int .u64 0, .int .u64 0, .int .u64 0, .int .u64 0, .int .u64 0] (f2 5) vd2 := hf 15 _ _ (by decide) rfl rfl
  have d18 : f2 18 = .agg (av n2) := hf 4 _ _ (by decide) rfl rfl
  obtain ⟨g6, d6, lo6, bk6⟩ : NewB vd1.heap.size 33 #[.int .u64 0, .int .u64 0, .int .u64 0, .int .u64 0, .int .u64 0, .int .u64 0, .int .u64 0, .int .u64 0, .int .u64 0, .int .u64 0, .int .u64 0, .int .u64 0, .int .u64 0, .int .u64 0, .int .u64 0, .int .u64 0] (f2 6) vd2 := hf 16 _ _ (by decide) rfl rfl
  have d23 : f2 23 = .agg (av n3) := hf 9 _ _ (by decide) rfl rfl
  obtain ⟨g7, d7, lo7, bk7⟩ : NewB vd1.heap.size 33 #[.int .u64 0, .int .u64 0, .int .u64 0, .int .u64 0, .int .u64 0, .int .u64 0, .int .u64 0, .int .u64 0, .int .u64 0, .int .u64 0, .int .u64 0, .int .u64 0, .int .u64 0, .int .u64 0, .int .u64 0, .int .u64 0] (f2 7) vd2 := hf 17 _ _ (by decide) rfl rfl
  have d28 : f2 28 = .agg (av n4) := hf 14 _ _ (by decide) rfl rfl
  have ne5_6 : g5 ≠ g6 := by
    have := hne 15 16 _ _ _ _ (by decide) (by decide) (by decide) rfl rfl rfl rfl rfl rfl
    rw [d5, d6] at this
    exact fun h => this (by rw [h])
  have ne5_7 : g5 ≠ g7 := by
    have := hne 15 17 _ _ _ _ (by decide) (by decide) (by decide) rfl rfl rfl rfl rfl rfl
    rw [d5, d7] at this
    exact fun h => this (by rw [h])
  have ne6_7 : g6 ≠ g7 := by
    have := hne 16 17 _ _ _ _ (by decide) (by decide) (by decide) rfl rfl rfl rfl rfl rfl
    rw [d6, d7] at this
    exact fun h => this (by rw [h])
  clear hf hne
  simp only [d5, d18, d6, d23, d7, d28]
  clear d5 d18 d6 d23 d7 d28
  have ne_G2_5 : G2 ≠ g5 := by have := k2.lt; omega
  have ne_G2_6 : G2 ≠ g6 := by have := k2.lt; omega
  have ne_G2_7 : G2 ≠ g7 := by have := k2.lt; omega
  have ne_G3_5 : G3 ≠ g5 := by have := k3.lt; omega
  have ne_G3_6 : G3 ≠ g6 := by have := k3.lt; omega
  have ne_G3_7 : G3 ≠ g7 := by have := k3.lt; omega
  replace lo5 : w.heap.size ≤ g5 := Nat.le_trans hb0.size lo5
  replace lo6 : w.heap.size ≤ g6 := Nat.le_trans hb0.size lo6
  replace lo7 : w.heap.size ≤ g7 := Nat.le_trans hb0.size lo7
  replace k2 := k2.below hb
  replace k3 := k3.below hb
  replace hb0 := hb0.trans (hb.mono hb0.size)
  clear hb
  refine stN (old := fun _ => 0) rfl rfl rfl rfl bk5 ?_
  intro vs2_0 k5 hgr hsz
  replace k2 := k2.grown hgr (fun h => ne_G2_5 (by injection h))
  replace k3 := k3.grown hgr (fun h => ne_G3_5 (by injection h))
  replace bk6 := bk6.grown hgr (fun h => ne5_6 (by injection h with h; exact h.symm))
  replace bk7 := bk7.grown hgr (fun h => ne5_7 (by injection h with h; exact h.symm))
  replace hb0 := hb0.grown hgr hb0.size (fun k hk => by injection hk with hk; omega)
  clear hgr hsz
  refine stN (old := fun _ => 0) rfl rfl rfl rfl bk6 ?_
  intro vs2_1 k6 hgr hsz
  replace k2 := k2.grown hgr (fun h => ne_G2_6 (by injection h))
  replace k3 := k3.grown hgr (fun h => ne_G3_6 (by injection h))
  replace k5 := k5.grown hgr (fun h => ne5_6 (by injection h))
  replace bk7 := bk7.grown hgr (fun h => ne6_7 (by injection h with h; exact h.symm))
  replace hb0 := hb0.grown hgr hb0.size (fun k hk => by injection hk with hk; omega)
  clear hgr hsz
  refine stN (old := fun _ => 0) rfl rfl rfl rfl bk7 ?_
  intro vs2_2 k7 hgr hsz
  replace k2 := k2.grown hgr (fun h => ne_G2_7 (by injection h))
  replace k3 := k3.grown hgr (fun h => ne_G3_7 (by injection h))
  replace k5 := k5.grown hgr (fun h => ne5_7 (by injection h))
  replace k6 := k6.grown hgr (fun h => ne6_7 (by injection h))
  replace hb0 := hb0.grown hgr hb0.size (fun k hk => by injection hk with hk; omega)
  clear hgr hsz
  refine wpList_nil ?_
  clear ne_G2_5
  clear ne_G2_6
  clear ne_G2_7
  clear ne_G3_5
  clear ne_G3_6
  clear ne_G3_7
  clear ne5_6
  clear ne5_7
  clear ne6_7
  replace lo5 := Lib.hid lo5
  replace lo6 := Lib.hid lo6
  replace lo7 := Lib.hid lo7
  go_wp2
  refine wp_region_grow2 6 (fun k => Nat.beq k 8 || (Nat.ble 29 k && Nat.ble k 33)) _ [] (fun j x' q => (rkT4L n2 n3 n4 n5 n6 vs2_2.heap.size).getD j (fun _ _ => True) x' q) (fun j => j == 5) (fun f => #[.agg (tcf x1 y1 z1), .agg #[.int .u64 t.a0, .int .u64 t.a1, .int .u64 t.a2, .int .u64 t.a3, .int .u64 t.a4], .pointer (some ⟨G2, 0, none⟩), .pointer (some ⟨G3, 0, none⟩), .bool false, .pointer (some ⟨g5, 0, none⟩), .pointer (some ⟨g6, 0, none⟩), .pointer (some ⟨g7, 0, none⟩), f 8, undef, f1 10, f1 11, f1 12, .bool false, f2 14, f2 15, f2 16, f2 17, .agg (av n2), f2 19, f2 20, f2 21, f2 22, .agg (av n3), f2 24, f2 25, f2 26, f2 27, .agg (av n4), f 29, f 30, f 31, f 32, f 33, undef, undef, undef, undef, undef, undef, undef, undef, undef, undef, undef, undef, undef, undef, undef, undef, undef, undef, undef, undef, undef, undef, undef, undef, undef]) (fun f => rfl) (by kernel_rfl) (by kernel_rfl) (by kernel_rfl) (by kernel_rfl) (by kernel_rfl) (rkT4S _ _ _ _ _ _) (rkT4O _ _ _ _ _ _) ?_ ?_
  · refine steps2_cons ?_ ?_
    · as_aux_lemma =>
      intro f w1 hb hd Q hK
      clear hd
      have hK := Lib.hid hK
      refine ldNw (by kernel_rfl) rfl rfl (k6.below hb) ?_
      refine wpList_nil ?_
      exact hK.out _ _ rfl (Below.refl _ _) (fun h => by cases h)
    refine steps2_cons ?_ ?_
    · as_aux_lemma =>
      intro f w1 hb hd Q hK
      clear hd
      have hK := Lib.hid hK
      refine ldNw (by kernel_rfl) rfl rfl (k5.below hb) ?_
      refine wpList_nil ?_
      exact hK.out _ _ rfl (Below.refl _ _) (fun h => by cases h)
    refine steps2_cons ?_ ?_
    · as_aux_lemma =>
      intro f w1 hb hd Q hK
      have e29 : f 29 = .agg (av n3) := hd.1 rfl
      have e30 : f 30 = .agg (av n2) := hd.2.1 rfl
      clear hd
      simp only [e29, e30] at hK
      have hK := Lib.hid hK
      go_wp2_with fail
      refine (c5.out _).mono ?_
      rintro e w2 ⟨rfl, hb2⟩
      go_wp2
      exact hK.out _ _ rfl hb2 (fun h => by cases h)
    refine steps2_cons ?_ ?_
    · as_aux_lemma =>
      intro f w1 hb hd Q hK
      clear hd
      have hK := Lib.hid hK
      refine ldNw (by kernel_rfl) rfl rfl (k7.below hb) ?_
      refine wpList_nil ?_
      exact hK.out _ _ rfl (Below.refl _ _) (fun h => by cases h)
    refine steps2_cons ?_ ?_
    · as_aux_lemma =>
      intro f w1 hb hd Q hK
      have e31 : f 31 = .agg (av n5) := hd.1 rfl
      have e32 : f 32 = .agg (av n4) := hd.2.1 rfl
      clear hd
      simp only [e31, e32] at hK
      have hK := Lib.hid hK
      go_wp2_with fail
      refine (c6.out _).mono ?_
      rintro e w2 ⟨rfl, hb2⟩
      go_wp2
      exact hK.out _ _ rfl hb2 (fun h => by cases h)
    refine steps2_cons ?_ ?_
    · as_aux_lemma =>
      intro f w1 hb hd Q hK
      clear hd
      have hK := Lib.hid hK
      have hsz := hb.size
      go_wp2
      exact hK.out _ _ ⟨_, rfl, hsz, Blk.new _ _ _⟩ ((Below.refl _ _).alloc (Nat.le_refl _) _) (fun _ => ⟨_, rfl, Nat.le_refl _⟩)
    trivial
  intro f3 vd3 hb hf hne
  obtain ⟨g8, d8, lo8, bk8⟩ : NewB vs2_2.heap.size 33 #[.int .u64 0, .int .u64 0, .int .u64 0, .int .u64 0, .int .u64 0, .int .u64 0, .int .u64 0, .int .u64 0, .int .u64 0, .int .u64 0, .int .u64 0, .int .u64 0, .int .u64 0, .int .u64 0, .int .u64 0, .int .u64 0] (f3 8) vd3 := hf 5 _ _ (by decide) rfl rfl
  have d33 : f3 33 = .agg (av n6) := hf 4 _ _ (by decide) rfl rfl
  clear hf hne
  simp only [d8, d33]
  clear d8 d33
  have ne_G2_8 : G2 ≠ g8 := by have := k2.lt; omega
  have ne_G3_8 : G3 ≠ g8 := by have := k3.lt; omega
  have ne_g5_8 : g5 ≠ g8 := by have := k5.lt; omega
  have ne_g6_8 : g6 ≠ g8 := by have := k6.lt; omega
  have ne_g7_8 : g7 ≠ g8 := by have := k7.lt; omega
  replace lo8 : w.heap.size ≤ g8 := Nat.le_trans hb0.size lo8
  replace k2 := k2.below hb
  replace k3 := k3.below hb
  replace k5 := k5.below hb
  replace k6 := k6.below hb
  replace k7 := k7.below hb
  replace hb0 := hb0.trans (hb.mono hb0.size)
  clear hb
  refine stN (old := fun _ => 0) rfl rfl rfl rfl bk8 ?_
  intro vs3_0 k8 hgr hsz
  replace k2 := k2.grown hgr (fun h => ne_G2_8 (by injection h))
  replace k3 := k3.grown hgr (fun h => ne_G3_8 (by injection h))
  replace k5 := k5.grown hgr (fun h => ne_g5_8 (by injection h))
  replace k6 := k6.grown hgr (fun h => ne_g6_8 (by injection h))
  replace k7 := k7.grown hgr (fun h => ne_g7_8 (by injection h))
  replace hb0 := hb0.grown hgr hb0.size (fun k hk => by injection hk with hk; omega)
  clear hgr hsz
  refine wpList_nil ?_
  clear ne_G2_8
  clear ne_G3_8
  clear ne_g5_8
  clear ne_g6_8
  clear ne_g7_8
  replace lo8 := Lib.hid lo8
  go_wp2
  refine wp_region_grow2 10 (fun k => Nat.beq k 9 || (Nat.ble 34 k && Nat.ble k 42)) _ [] (fun j x' q => (rkT5L n2 n3 n4 n7 n8 n9 n10 n11 vs3_0.heap.size).getD j (fun _ _ => True) x' q) (fun j => j == 9) (fun f => #[.agg (tcf x1 y1 z1), .agg #[.int .u64 t.a0, .int .u64 t.a1, .int .u64 t.a2, .int .u64 t.a3, .int .u64 t.a4], .pointer (some ⟨G2, 0, none⟩), .pointer (some ⟨G3, 0, none⟩), .bool false, .pointer (some ⟨g5, 0, none⟩), .pointer (some ⟨g6, 0, none⟩), .pointer (some ⟨g7, 0, none⟩), .pointer (some ⟨g8, 0, none⟩), f 9, f1 10, f1 11, f1 12, .bool false, f2 14, f2 15, f2 16, f2 17, .agg (av n2), f2 19, f2 20, f2 21, f2 22, .agg (av n3), f2 24, f2 25, f2 26, f2 27, .agg (av n4), f3 29, f3 30, f3 31, f3 32, .agg (av n6), f 34, f 35, f 36, f 37, f 38, f 39, f 40, f 41, f 42, undef, undef, undef, undef, undef, undef, undef, undef, undef, undef, undef, undef, undef, undef, undef, undef]) (fun f => rfl) (by kernel_rfl) (by kernel_rfl) (by kernel_rfl) (by kernel_rfl) (by kernel_rfl) (rkT5S _ _ _ _ _ _ _ _ _) (rkT5O _ _ _ _ _ _ _ _ _) ?_ ?_
  · refine steps2_cons ?_ ?_
    · as_aux_lemma =>
      intro f w1 hb hd Q hK
      clear hd
      have hK := Lib.hid hK
      refine ldNw (by kernel_rfl) rfl rfl (k7.below hb) ?_
      refine wpList_nil ?_
      exact hK.out _ _ rfl (Below.refl _ _) (fun h => by cases h)
    refine steps2_cons ?_ ?_
    · as_aux_lemma =>
      intro f w1 hb hd Q hK
      clear hd
      have hK := Lib.hid hK
      refine ldNw (by kernel_rfl) rfl rfl (k7.below hb) ?_
      refine wpList_nil ?_
      exact hK.out _ _ rfl (Below.refl _ _) (fun h => by cases h)
    refine steps2_cons ?_ ?_
    · as_aux_lemma =>
      intro f w1 hb hd Q hK
      have e34 : f 34 = .agg (av n4) := hd.1 rfl
      have e35 : f 35 = .agg (av n4) := hd.2.1 rfl
      clear hd
      simp only [e34, e35] at hK
      have hK := Lib.hid hK
      go_wp2_with fail
      refine (c7.out _).mono ?_
      rintro e w2 ⟨rfl, hb2⟩
      go_wp2
      exact hK.out _ _ rfl hb2 (fun h => by cases h)
    refine steps2_cons ?_ ?_
    · as_aux_lemma =>
      intro f w1 hb hd Q hK
      clear hd
      have hK := Lib.hid hK
      go_wp2_with fail
      refine (c8.out _).mono ?_
      rintro e w2 ⟨rfl, hb2⟩
      go_wp2
      exact hK.out _ _ rfl hb2 (fun h => by cases h)
    refine steps2_cons ?_ ?_
    · as_aux_lemma =>
      intro f w1 hb hd Q hK
      clear hd
      have hK := Lib.hid hK
      refine ldNw (by kernel_rfl) rfl rfl (k5.below hb) ?_
      refine wpList_nil ?_
      exact hK.out _ _ rfl (Below.refl _ _) (fun h => by cases h)
    refine steps2_cons ?_ ?_
    · as_aux_lemma =>
      intro f w1 hb hd Q hK
      clear hd
      have hK := Lib.hid hK
      refine ldNw (by kernel_rfl) rfl rfl (k6.below hb) ?_
      refine wpList_nil ?_
      exact hK.out _ _ rfl (Below.refl _ _) (fun h => by cases h)
    refine steps2_cons ?_ ?_
    · as_aux_lemma =>
      intro f w1 hb hd Q hK
      have e38 : f 38 = .agg (av n2) := hd.1 rfl
      have e39 : f 39 = .agg (av n3) := hd.2.1 rfl
      clear hd
      simp only [e38, e39] at hK
      have hK := Lib.hid hK
      go_wp2_with fail
      refine (c9.out _).mono ?_
      rintro e w2 ⟨rfl, hb2⟩
      go_wp2
      exact hK.out _ _ rfl hb2 (fun h => by cases h)
    refine steps2_cons ?_ ?_
    · as_aux_lemma =>
      intro f w1 hb hd Q hK
      have e37 : f 37 = .agg (av n8) := hd.1 rfl
      have e40 : f 40 = .agg (av n9) := hd.2.1 rfl
      clear hd
      simp only [e37, e40] at hK
      have hK := Lib.hid hK
      go_wp2_with fail
      refine (c10.out _).mono ?_
      rintro e w2 ⟨rfl, hb2⟩
      go_wp2
      exact hK.out _ _ rfl hb2 (fun h => by cases h)
    refine steps2_cons ?_ ?_
    · as_aux_lemma =>
      intro f w1 hb hd Q hK
      have e36 : f 36 = .agg (av n7) := hd.1 rfl
      have e41 : f 41 = .agg (av n10) := hd.2.1 rfl
      clear hd
      simp only [e36, e41] at hK
      have hK := Lib.hid hK
      go_wp2_with fail
      refine (c11.out _).mono ?_
      rintro e w2 ⟨rfl, hb2⟩
      go_wp2
      exact hK.out _ _ rfl hb2 (fun h => by cases h)
    refine steps2_cons ?_ ?_
    · as_aux_lemma =>
      intro f w1 hb hd Q hK
      clear hd
      have hK := Lib.hid hK
      have hsz := hb.size
      go_wp2
      exact hK.out _ _ ⟨_, rfl, hsz, Blk.new _ _ _⟩ ((Below.refl _ _).alloc (Nat.le_refl _) _) (fun _ => ⟨_, rfl, Nat.le_refl _⟩)
    trivial
  intro f4 vd4 hb hf hne
  obtain ⟨g9, d9, lo9, bk9⟩ : NewB vs3_0.heap.size 33 #[.int .u64 0, .int .u64 0, .int .u64 0, .int .u64 0, .int .u64 0, .int .u64 0, .int .u64 0, .int .u64 0, .int .u64 0, .int .u64 0, .int .u64 0, .int .u64 0, .int .u64 0, .int .u64 0, .int .u64 0, .int .u64 0] (f4 9) vd4 := hf 9 _ _ (by decide) rfl rfl
  have d42 : f4 42 = .agg (av n11) := hf 8 _ _ (by decide) rfl rfl
  clear hf hne
  simp only [d9, d42]
  clear d9 d42
  have ne_G2_9 : G2 ≠ g9 := by have := k2.lt; omega
  have ne_G3_9 : G3 ≠ g9 := by have := k3.lt; omega
  have ne_g5_9 : g5 ≠ g9 := by have := k5.lt; omega
  have ne_g6_9 : g6 ≠ g9 := by have := k6.lt; omega
  have ne_g7_9 : g7 ≠ g9 := by have := k7.lt; omega
  have ne_g8_9 : g8 ≠ g9 := by have := k8.lt; omega
  replace lo9 : w.heap.size ≤ g9 := Nat.le_trans hb0.size lo9
  replace k2 := k2.below hb
  replace k3 := k3.below hb
  replace k5 := k5.below hb
  replace k6 := k6.below hb
  replace k7 := k7.below hb
  replace k8 := k8.below hb
  replace hb0 := hb0.trans (hb.mono hb0.size)
  clear hb
  refine stN (old := fun _ => 0) rfl rfl rfl rfl bk9 ?_
  intro vs4_0 k9 hgr hsz
  replace k2 := k2.grown hgr (fun h => ne_G2_9 (by injection h))
  replace k3 := k3.grown hgr (fun h => ne_G3_9 (by injection h))
  replace k5 := k5.grown hgr (fun h => ne_g5_9 (by injection h))
  replace k6 := k6.grown hgr (fun h => ne_g6_9 (by injection h))
  replace k7 := k7.grown hgr (fun h => ne_g7_9 (by injection h))
  replace k8 := k8.grown hgr (fun h => ne_g8_9 (by injection h))
  replace hb0 := hb0.grown hgr hb0.size (fun k hk => by injection hk with hk; omega)
  clear hgr hsz
  refine wpList_nil ?_
  clear ne_G2_9
  clear ne_G3_9
  clear ne_g5_9
  clear ne_g6_9
  clear ne_g7_9
  clear ne_g8_9
  replace lo9 := Lib.hid lo9
  go_wp2
  refine wp_region_grow2 17 (fun k => Nat.beq k 4 || (Nat.ble 43 k && Nat.ble k 58)) _ [] (fun j x' q => (rkT6L x1 y1 z1 t n6 n11 n12 n13 n14 b G2).getD j (fun _ _ => True) x' q) (fun _ => false) (fun f => #[.agg (tcf x1 y1 z1), .agg #[.int .u64 t.a0, .int .u64 t.a1, .int .u64 t.a2, .int .u64 t.a3, .int .u64 t.a4], .pointer (some ⟨G2, 0, none⟩), .pointer (some ⟨G3, 0, none⟩), f 4, .pointer (some ⟨g5, 0, none⟩), .pointer (some ⟨g6, 0, none⟩), .pointer (some ⟨g7, 0, none⟩), .pointer (some ⟨g8, 0, none⟩), .pointer (some ⟨g9, 0, none⟩), f1 10, f1 11, f1 12, .bool false, f2 14, f2 15, f2 16, f2 17, .agg (av n2), f2 19, f2 20, f2 21, f2 22, .agg (av n3), f2 24, f2 25, f2 26, f2 27, .agg (av n4), f3 29, f3 30, f3 31, f3 32, .agg (av n6), f4 34, f4 35, f4 36, f4 37, f4 38, f4 39, f4 40, f4 41, .agg (av n11), f 43, f 44, f 45, f 46, f 47, f 48, f 49, f 50, f 51, f 52, f 53, f 54, f 55, f 56, f 57, f 58]) (fun f => rfl) (by kernel_rfl) (by kernel_rfl) (by kernel_rfl) (by kernel_rfl) (by kernel_rfl) (rkT6S _ _ _ _ _ _ _ _ _ _ _) (fun _ _ _ h => by cases h) ?_ ?_
  · refine steps2_cons ?_ ?_
    · as_aux_lemma =>
      intro f w1 hb hd Q hK
      clear hd
      have hK := Lib.hid hK
      refine ldNw (by kernel_rfl) rfl rfl (k8.below hb) ?_
      refine wpList_nil ?_
      exact hK.out _ _ rfl (Below.refl _ _) (fun h => by cases h)
    refine steps2_cons ?_ ?_
    · as_aux_lemma =>
      intro f w1 hb hd Q hK
      clear hd
      have hK := Lib.hid hK
      refine ldNw (by kernel_rfl) rfl rfl (k9.below hb) ?_
      refine wpList_nil ?_
      exact hK.out _ _ rfl (Below.refl _ _) (fun h => by cases h)
    refine steps2_cons ?_ ?_
    · as_aux_lemma =>
      intro f w1 hb hd Q hK
      have e43 : f 43 = .agg (av n6) := hd.1 rfl
      have e44 : f 44 = .agg (av n11) := hd.2.1 rfl
      clear hd
      simp only [e43, e44] at hK
      have hK := Lib.hid hK
      have hq := fun w => (run_eql_N n6 n11 w).trans (by rw [q2.out])
      go_wp2
      exact hK.out _ _ rfl (Below.refl _ _) (fun h => by cases h)
    refine steps2_cons ?_ ?_
    · as_aux_lemma =>
      intro f w1 hb hd Q hK
      have e45 : f 45 = .bool true := hd.1 rfl
      clear hd
      simp only [e45] at hK
      have hK := Lib.hid hK
      go_wp2
      exact hK.out _ _ rfl (Below.refl _ _) (fun h => by cases h)
    refine steps2_cons ?_ ?_
    · as_aux_lemma =>
      intro f w1 hb hd Q hK
      have e46 : f 46 = .bool true := hd.1 rfl
      clear hd
      simp only [e46] at hK
      have hK := Lib.hid hK
      obtain ⟨c0, c1, c2, c3, c4⟩ := blk5 (k3.below hb)
      go_wp2
      exact hK.out _ _ rfl (Below.refl _ _) (fun h => by cases h)
    refine steps2_cons ?_ ?_
    · as_aux_lemma =>
      intro f w1 hb hd Q hK
      have e47 : f 47 = .agg #[.int .u64 t.a0, .int .u64 t.a1, .int .u64 t.a2, .int .u64 t.a3, .int .u64 t.a4] := hd.1 rfl
      have e46 : f 46 = .bool true := hd.2.1 rfl
      clear hd
      simp only [e47, e46] at hK
      have hK := Lib.hid hK
      go_wp2_with fail
      refine (c12.out _).mono ?_
      rintro e w2 ⟨rfl, hb2⟩
      go_wp2
      exact hK.out _ _ rfl hb2 (fun h => by cases h)
    refine steps2_cons ?_ ?_
    · as_aux_lemma =>
      intro f w1 hb hd Q hK
      have e46 : f 46 = .bool true := hd.1 rfl
      clear hd
      simp only [e46] at hK
      have hK := Lib.hid hK
      go_wp2
      exact hK.out _ _ rfl (Below.refl _ _) (fun h => by cases h)
    refine steps2_cons ?_ ?_
    · as_aux_lemma =>
      intro f w1 hb hd Q hK
      have e49 : f 49 = .pointer (some ⟨G2, 32, none⟩) := hd.1 rfl
      have e46 : f 46 = .bool true := hd.2.1 rfl
      clear hd
      simp only [e49, e46] at hK
      have hK := Lib.hid hK
      refine ldTz (by simp only [e49, e46]; kernel_rfl) rfl e49 (k2.below hb) ?_
      refine wpList_nil ?_
      simp only [e49, e46]
      exact hK.out _ _ rfl (Below.refl _ _) (fun h => by cases h)
    refine steps2_cons ?_ ?_
    · as_aux_lemma =>
      intro f w1 hb hd Q hK
      have e48 : f 48 = .agg (av n12) := hd.1 rfl
      have e50 : f 50 = .agg (av z1) := hd.2.1 rfl
      have e46 : f 46 = .bool true := hd.2.2.2.1 rfl
      clear hd
      simp only [e48, e50, e46] at hK
      have hK := Lib.hid hK
      go_wp2_with fail
      refine (c13.out _).mono ?_
      rintro e w2 ⟨rfl, hb2⟩
      go_wp2
      exact hK.out _ _ rfl hb2 (fun h => by cases h)
    refine steps2_cons ?_ ?_
    · as_aux_lemma =>
      intro f w1 hb hd Q hK
      have e46 : f 46 = .bool true := hd.1 rfl
      clear hd
      simp only [e46] at hK
      have hK := Lib.hid hK
      go_wp2
      exact hK.out _ _ rfl (Below.refl _ _) (fun h => by cases h)
    refine steps2_cons ?_ ?_
    · as_aux_lemma =>
      intro f w1 hb hd Q hK
      have e52 : f 52 = .pointer (some ⟨G2, 0, none⟩) := hd.1 rfl
      have e46 : f 46 = .bool true := hd.2.1 rfl
      clear hd
      simp only [e52, e46] at hK
      have hK := Lib.hid hK
      refine ldTx (by simp only [e52, e46]; kernel_rfl) rfl e52 (k2.below hb) ?_
      refine wpList_nil ?_
      simp only [e52, e46]
      exact hK.out _ _ rfl (Below.refl _ _) (fun h => by cases h)
    refine steps2_cons ?_ ?_
    · as_aux_lemma =>
      intro f w1 hb hd Q hK
      have e46 : f 46 = .bool true := hd.1 rfl
      clear hd
      simp only [e46] at hK
      have hK := Lib.hid hK
      go_wp2
      exact hK.out _ _ rfl (Below.refl _ _) (fun h => by cases h)
    refine steps2_cons ?_ ?_
    · as_aux_lemma =>
      intro f w1 hb hd Q hK
      have e54 : f 54 = .pointer (some ⟨G2, 16, none⟩) := hd.1 rfl
      have e46 : f 46 = .bool true := hd.2.1 rfl
      clear hd
      simp only [e54, e46] at hK
      have hK := Lib.hid hK
      refine ldTy (by simp only [e54, e46]; kernel_rfl) rfl e54 (k2.below hb) ?_
      refine wpList_nil ?_
      simp only [e54, e46]
      exact hK.out _ _ rfl (Below.refl _ _) (fun h => by cases h)
    refine steps2_cons ?_ ?_
    · as_aux_lemma =>
      intro f w1 hb hd Q hK
      have e53 : f 53 = .agg (av x1) := hd.1 rfl
      have e55 : f 55 = .agg (av y1) := hd.2.1 rfl
      have e46 : f 46 = .bool true := hd.2.2.2.1 rfl
      clear hd
      simp only [e53, e55, e46] at hK
      have hK := Lib.hid hK
      go_wp2_with fail
      refine (c14.out _).mono ?_
      rintro e w2 ⟨rfl, hb2⟩
      go_wp2
      exact hK.out _ _ rfl hb2 (fun h => by cases h)
    refine steps2_cons ?_ ?_
    · as_aux_lemma =>
      intro f w1 hb hd Q hK
      have e51 : f 51 = .agg (av n13) := hd.1 rfl
      have e56 : f 56 = .agg (av n14) := hd.2.1 rfl
      have e46 : f 46 = .bool true := hd.2.2.1 rfl
      clear hd
      simp only [e51, e56, e46] at hK
      have hK := Lib.hid hK
      have hq := fun w => (run_eql_N n13 n14 w).trans (by rw [q3.out])
      go_wp2
      exact hK.out _ _ rfl (Below.refl _ _) (fun h => by cases h)
    refine steps2_cons ?_ ?_
    · as_aux_lemma =>
      intro f w1 hb hd Q hK
      have e46 : f 46 = .bool true := hd.1 rfl
      have e57 : f 57 = .bool b := hd.2.1 rfl
      clear hd
      simp only [e46, e57] at hK
      have hK := Lib.hid hK
      go_wp2
      exact hK.out _ _ rfl (Below.refl _ _) (fun h => by cases h)
    refine steps2_cons ?_ ?_
    · as_aux_lemma =>
      intro f w1 hb hd Q hK
      have e58 : f 58 = .bool b := hd.1 rfl
      clear hd
      simp only [e58] at hK
      have hK := Lib.hid hK
      go_wp2
      exact hK.out _ _ rfl (Below.refl _ _) (fun h => by cases h)
    trivial
  intro f5 vd5 hb hf hne
  refine wpList_nil ?_
  have d4 : f5 4 = .bool b := hf 16 _ _ (by decide) rfl rfl
  clear hf hne
  simp only [d4]
  clear d4
  replace k2 := k2.below hb
  replace k3 := k3.below hb
  replace k5 := k5.below hb
  replace k6 := k6.below hb
  replace k7 := k7.below hb
  replace k8 := k8.below hb
  replace k9 := k9.below hb
  replace hb0 := hb0.trans (hb.mono hb0.size)
  clear hb
  go_wp2
  go_returns
  exact ⟨rfl, hb0⟩
def rkF1L (z1 : Nat → Int) (n1 : Nat → Int) (G2 : Nat) : List (Value → World → Prop) := [
  Eq1 (.pointer (some ⟨G2, 32, none⟩)),
  Eq1 (.agg (av z1)),
  Eq1 (.agg (av n1)),
  Eq1 (.bool false)]
theorem rkF1S (z1 : Nat → Int) (n1 : Nat → Int) (G2 : Nat) : ∀ j x' q q', (rkF1L z1 n1 G2).getD j (fun _ _ => True) x' q → Below q.heap.size q q' → (rkF1L z1 n1 G2).getD j (fun _ _ => True) x' q' := by
  refine sta_all _ ?_
  simp only [rkF1L, List.mem_cons, forall_eq_or_imp, List.not_mem_nil, false_implies, implies_true, and_true]
  exact ⟨sta_eq _, sta_eq _, sta_eq _, sta_eq _⟩
def rkF3L (x1 : Nat → Int) (y1 : Nat → Int) (z1 : Nat → Int) (n2 : Nat → Int) (n3 : Nat → Int) (n4 : Nat → Int) (G2 : Nat) (B0 : Nat) : List (Value → World → Prop) := [
  Eq1 (.pointer (some ⟨G2, 0, none⟩)),
  Eq1 (.agg (av x1)),
  Eq1 (.pointer (some ⟨G2, 0, none⟩)),
  Eq1 (.agg (av x1)),
  Eq1 (.agg (av n2)),
  Eq1 (.pointer (some ⟨G2, 16, none⟩)),
  Eq1 (.agg (av y1)),
  Eq1 (.pointer (some ⟨G2, 16, none⟩)),
  Eq1 (.agg (av y1)),
  Eq1 (.agg (av n3)),
  Eq1 (.pointer (some ⟨G2, 32, none⟩)),
  Eq1 (.agg (av z1)),
  Eq1 (.pointer (some ⟨G2, 32, none⟩)),
  Eq1 (.agg (av z1)),
  Eq1 (.agg (av n4)),
  NewB B0 33 #[.int .u64 0, .int .u64 0, .int .u64 0, .int .u64 0, .int .u64 0, .int .u64 0, .int .u64 0, .int .u64 0, .int .u64 0, .int .u64 0, .int .u64 0, .int .u64 0, .int .u64 0, .int .u64 0, .int .u64 0, .int .u64 0],
  NewB B0 33 #[.int .u64 0, .int .u64 0, .int .u64 0, .int .u64 0, .int .u64 0, .int .u64 0, .int .u64 0, .int .u64 0, .int .u64 0, .int .u64 0, .int .u64 0, .int .u64 0, .int .u64 0, .int .u64 0, .int .u64 0, .int .u64 0],
  NewB B0 33 #[.int .u64 0, .int .u64 0, .int .u64 0, .int .u64 0, .int .u64 0, .int .u64 0, .int .u64 0, .int .u64 0, .int .u64 0, .int .u64 0, .int .u64 0, .int .u64 0, .int .u64 0, .int .u64 0, .int .u64 0, .int .u64 0]]
theorem rkF3S (x1 : Nat → Int) (y1 : Nat → Int) (z1 : Nat → Int) (n2 : Nat → Int) (n3 : Nat → Int) (n4 : Nat → Int) (G2 : Nat) (B0 : Nat) : ∀ j x' q q', (rkF3L x1 y1 z1 n2 n3 n4 G2 B0).getD j (fun _ _ => True) x' q → Below q.heap.size q q' → (rkF3L x1 y1 z1 n2 n3 n4 G2 B0).getD j (fun _ _ => True) x' q' := by
  refine sta_all _ ?_
  simp only [rkF3L, List.mem_cons, forall_eq_or_imp, List.not_mem_nil, false_implies, implies_true, and_true]
  exact ⟨sta_eq _, sta_eq _, sta_eq _, sta_eq _, sta_eq _, sta_eq _, sta_eq _, sta_eq _, sta_eq _, sta_eq _, sta_eq _, sta_eq _, sta_eq _, sta_eq _, sta_eq _, sta_new _ _ _, sta_new _ _ _, sta_new _ _ _⟩
theorem rkF3O (x1 : Nat → Int) (y1 : Nat → Int) (z1 : Nat → Int) (n2 : Nat → Int) (n3 : Nat → Int) (n4 : Nat → Int) (G2 : Nat) (B0 : Nat) : ∀ j x' q, (fun j => j == 15 || j == 16 || j == 17) j = true → (rkF3L x1 y1 z1 n2 n3 n4 G2 B0).getD j (fun _ _ => True) x' q → ∀ g, x' = .pointer (some ⟨g, 0, none⟩) → g < q.heap.size := by
  intro j x' q hj hv g e
  have hj' : j = 15 ∨ j = 16 ∨ j = 17 := by simpa only [Bool.or_eq_true, beq_iff_eq, or_assoc] using hj
  rcases hj' with rfl | rfl | rfl
  all_goals exact new_lt hv e
def rkF4L (n2 : Nat → Int) (n3 : Nat → Int) (n4 : Nat → Int) (n5 : Nat → Int) (n6 : Nat → Int) (B0 : Nat) : List (Value → World → Prop) := [
  Eq1 (.agg (av n3)),
  Eq1 (.agg (av n2)),
  Eq1 (.agg (av n5)),
  Eq1 (.agg (av n4)),
  Eq1 (.agg (av n6)),
  NewB B0 33 #[.int .u64 0, .int .u64 0, .int .u64 0, .int .u64 0, .int .u64 0, .int .u64 0, .int .u64 0, .int .u64 0, .int .u64 0, .int .u64 0, .int .u64 0, .int .u64 0, .int .u64 0, .int .u64 0, .int .u64 0, .int .u64 0]]
theorem rkF4S (n2 : Nat → Int) (n3 : Nat → Int) (n4 : Nat → Int) (n5 : Nat → Int) (n6 : Nat → Int) (B0 : Nat) : ∀ j x' q q', (rkF4L n2 n3 n4 n5 n6 B0).getD j (fun _ _ => True) x' q → Below q.heap.size q q' → (rkF4L n2 n3 n4 n5 n6 B0).getD j (fun _ _ => True) x' q' := by
  refine sta_all _ ?_
  simp only [rkF4L, List.mem_cons, forall_eq_or_imp, List.not_mem_nil, false_implies, implies_true, and_true]
  exact ⟨sta_eq _, sta_eq _, sta_eq _, sta_eq _, sta_eq _, sta_new _ _ _⟩
theorem rkF4O (n2 : Nat → Int) (n3 : Nat → Int) (n4 : Nat → Int) (n5 : Nat → Int) (n6 : Nat → Int) (B0 : Nat) : ∀ j x' q, (fun j => j == 5) j = true → (rkF4L n2 n3 n4 n5 n6 B0).getD j (fun _ _ => True) x' q → ∀ g, x' = .pointer (some ⟨g, 0, none⟩) → g < q.heap.size := by
  intro j x' q hj hv g e
  have hj' : j = 5 := by simpa only [Bool.or_eq_true, beq_iff_eq, or_assoc] using hj
  subst hj'
  all_goals exact new_lt hv e
def rkF5L (n2 : Nat → Int) (n3 : Nat → Int) (n4 : Nat → Int) (n7 : Nat → Int) (n8 : Nat → Int) (n9 : Nat → Int) (n10 : Nat → Int) (n11 : Nat → Int) (B0 : Nat) : List (Value → World → Prop) := [
  Eq1 (.agg (av n4)),
  Eq1 (.agg (av n4)),
  Eq1 (.agg (av n7)),
  Eq1 (.agg (av n8)),
  Eq1 (.agg (av n2)),
  Eq1 (.agg (av n3)),
  Eq1 (.agg (av n9)),
  Eq1 (.agg (av n10)),
  Eq1 (.agg (av n11)),
  NewB B0 33 #[.int .u64 0, .int .u64 0, .int .u64 0, .int .u64 0, .int .u64 0, .int .u64 0, .int .u64 0, .int .u64 0, .int .u64 0, .int .u64 0, .int .u64 0, .int .u64 0, .int .u64 0, .int .u64 0, .int .u64 0, .int .u64 0]]
theorem rkF5S (n2 : Nat → Int) (n3 : Nat → Int) (n4 : Nat → Int) (n7 : Nat → Int) (n8 : Nat → Int) (n9 : Nat → Int) (n10 : Nat → Int) (n11 : Nat → Int) (B0 : Nat) : ∀ j x' q q', (rkF5L n2 n3 n4 n7 n8 n9 n10 n11 B0).getD j (fun _ _ => True) x' q → Below q.heap.size q q' → (rkF5L n2 n3 n4 n7 n8 n9 n10 n11 B0).getD j (fun _ _ => True) x' q' := by
  refine sta_all _ ?_
  simp only [rkF5L, List.mem_cons, forall_eq_or_imp, List.not_mem_nil, false_implies, implies_true, and_true]
  exact ⟨sta_eq _, sta_eq _, sta_eq _, sta_eq _, sta_eq _, sta_eq _, sta_eq _, sta_eq _, sta_eq _, sta_new _ _ _⟩
theorem rkF5O (n2 : Nat → Int) (n3 : Nat → Int) (n4 : Nat → Int) (n7 : Nat → Int) (n8 : Nat → Int) (n9 : Nat → Int) (n10 : Nat → Int) (n11 : Nat → Int) (B0 : Nat) : ∀ j x' q, (fun j => j == 9) j = true → (rkF5L n2 n3 n4 n7 n8 n9 n10 n11 B0).getD j (fun _ _ => True) x' q → ∀ g, x' = .pointer (some ⟨g, 0, none⟩) → g < q.heap.size := by
  intro j x' q hj hv g e
  have hj' : j = 9 := by simpa only [Bool.or_eq_true, beq_iff_eq, or_assoc] using hj
  subst hj'
  all_goals exact new_lt hv e
def rkF6L (n6 : Nat → Int) (n11 : Nat → Int) : List (Value → World → Prop) := [
  Eq1 (.agg (av n6)),
  Eq1 (.agg (av n11)),
  Eq1 (.bool false),
  Eq1 (.bool false),
  Eq1 (undef),
  Eq1 (undef),
  Eq1 (undef),
  Eq1 (undef),
  Eq1 (undef),
  Eq1 (undef),
  Eq1 (undef),
  Eq1 (undef),
  Eq1 (undef),
  Eq1 (undef),
  Eq1 (undef),
  Eq1 (.bool false),
  Eq1 (.bool false)]
theorem rkF6S (n6 : Nat → Int) (n11 : Nat → Int) : ∀ j x' q q', (rkF6L n6 n11).getD j (fun _ _ => True) x' q → Below q.heap.size q q' → (rkF6L n6 n11).getD j (fun _ _ => True) x' q' := by
  refine sta_all _ ?_
  simp only [rkF6L, List.mem_cons, forall_eq_or_imp, List.not_mem_nil, false_implies, implies_true, and_true]
  exact ⟨sta_eq _, sta_eq _, sta_eq _, sta_eq _, sta_eq _, sta_eq _, sta_eq _, sta_eq _, sta_eq _, sta_eq _, sta_eq _, sta_eq _, sta_eq _, sta_eq _, sta_eq _, sta_eq _, sta_eq _⟩
set_option maxRecDepth 20000 in
set_option maxHeartbeats 8000000 in
theorem rOn_F {x1 : Nat → Int} {y1 : Nat → Int} {z1 : Nat → Int} {t : Fe.E} {n1 : Nat → Int} {n2 : Nat → Int} {n3 : Nat → Int} {n4 : Nat → Int} {n5 : Nat → Int} {n6 : Nat → Int} {n7 : Nat → Int} {n8 : Nat → Int} {n9 : Nat → Int} {n10 : Nat → Int} {n11 : Nat → Int}
    (c1 : ∀ w, Calls Tryd.prog 63 #[.int .u64 0] w (PostN n1 w))
    (q1 : eqN z1 n1 = false)
    (c2 : ∀ w, Calls Tryd.prog 60 #[.agg (av x1), .agg (av x1)] w (PostN n2 w))
    (c3 : ∀ w, Calls Tryd.prog 60 #[.agg (av y1), .agg (av y1)] w (PostN n3 w))
    (c4 : ∀ w, Calls Tryd.prog 60 #[.agg (av z1), .agg (av z1)] w (PostN n4 w))
    (c5 : ∀ w, Calls Tryd.prog 62 #[.agg (av n3), .agg (av n2)] w (PostN n5 w))
    (c6 : ∀ w, Calls Tryd.prog 60 #[.agg (av n5), .agg (av n4)] w (PostN n6 w))
    (c7 : ∀ w, Calls Tryd.prog 60 #[.agg (av n4), .agg (av n4)] w (PostN n7 w))
    (c8 : ∀ w, Calls Tryd.prog 38 #[] w (PostN n8 w))
    (c9 : ∀ w, Calls Tryd.prog 60 #[.agg (av n2), .agg (av n3)] w (PostN n9 w))
    (c10 : ∀ w, Calls Tryd.prog 60 #[.agg (av n8), .agg (av n9)] w (PostN n10 w))
    (c11 : ∀ w, Calls Tryd.prog 64 #[.agg (av n7), .agg (av n10)] w (PostN n11 w))
    (q2 : eqN n6 n11 = false)
    (w : World) : Calls Tryd.prog 27 #[.agg (tcf x1 y1 z1), .agg #[.int .u64 t.a0, .int .u64 t.a1, .int .u64 t.a2, .int .u64 t.a3, .int .u64 t.a4]] w (PostV (.bool false) w) := by
  replace c1 := Lib.hid c1
  replace q1 := Lib.hid q1
  replace c2 := Lib.hid c2
  replace c3 := Lib.hid c3
  replace c4 := Lib.hid c4
  replace c5 := Lib.hid c5
  replace c6 := Lib.hid c6
  replace c7 := Lib.hid c7
  replace c8 := Lib.hid c8
  replace c9 := Lib.hid c9
  replace c10 := Lib.hid c10
  replace c11 := Lib.hid c11
  replace q2 := Lib.hid q2
  go_enter Tryd.func27, Tryd.ntmps27
  go_wp2_with fail
  refine at_world (fun W0 hW => ?_)
  have k2 : Blk W0 (w.heap.size) 35 ((tcf x1 y1 z1)) := (by rw [hW]; exact (Blk.new _ _ _).alloc _)
  have k3 : Blk W0 (w.heap.size + 1) 26 (#[.int .u64 t.a0, .int .u64 t.a1, .int .u64 t.a2, .int .u64 t.a3, .int .u64 t.a4]) := (by rw [hW]; exact blk_at (by simp) (Blk.new _ _ _))
  have hb0 : Below w.heap.size w W0 := (by rw [hW]; go_grown)
  clear hW
  obtain ⟨G3, hG3⟩ : ∃ G3, G3 = w.heap.size + 1 := ⟨_, rfl⟩
  rw [← hG3] at k3 ⊢
  obtain ⟨G2, hG2⟩ : ∃ G2, G2 = w.heap.size := ⟨_, rfl⟩
  rw [← hG2] at k2 ⊢
  have loG2 : w.heap.size ≤ G2 := (by omega)
  have loG3 : w.heap.size ≤ G3 := (by omega)
  clear hG2 hG3
  refine wp_region_grow2 4 (fun k => (Nat.ble 10 k && Nat.ble k 13)) _ [] (fun j x' q => (rkF1L z1 n1 G2).getD j (fun _ _ => True) x' q) (fun _ => false) (fun f => #[.agg (tcf x1 y1 z1), .agg #[.int .u64 t.a0, .int .u64 t.a1, .int .u64 t.a2, .int .u64 t.a3, .int .u64 t.a4], .pointer (some ⟨G2, 0, none⟩), .pointer (some ⟨G3, 0, none⟩), .bool false, undef, undef, undef, undef, undef, f 10, f 11, f 12, f 13, undef, undef, undef, undef, undef, undef, undef, undef, undef, undef, undef, undef, undef, undef, undef, undef, undef, undef, undef, undef, undef, undef, undef, undef, undef, undef, undef, undef, undef, undef, undef, undef, undef, undef, undef, undef, undef, undef, undef, undef, undef, undef, undef, undef, undef]) (fun f => rfl) (by kernel_rfl) (by kernel_rfl) (by kernel_rfl) (by kernel_rfl) (by kernel_rfl) (rkF1S _ _ _) (fun _ _ _ h => by cases h) ?_ ?_
  · refine steps2_cons ?_ ?_
    · as_aux_lemma =>
      intro f w1 hb hd Q hK
      clear hd
      have hK := Lib.hid hK
      go_wp2
      exact hK.out _ _ rfl (Below.refl _ _) (fun h => by cases h)
    refine steps2_cons ?_ ?_
    · as_aux_lemma =>
      intro f w1 hb hd Q hK
      have e10 : f 10 = .pointer (some ⟨G2, 32, none⟩) := hd.1 rfl
      clear hd
      simp only [e10] at hK
      have hK := Lib.hid hK
      refine ldTz (by simp only [e10]; kernel_rfl) rfl e10 (k2.below hb) ?_
      refine wpList_nil ?_
      simp only [e10]
      exact hK.out _ _ rfl (Below.refl _ _) (fun h => by cases h)
    refine steps2_cons ?_ ?_
    · as_aux_lemma =>
      intro f w1 hb hd Q hK
      clear hd
      have hK := Lib.hid hK
      go_wp2_with fail
      refine (c1.out _).mono ?_
      rintro e w2 ⟨rfl, hb2⟩
      go_wp2
      exact hK.out _ _ rfl hb2 (fun h => by cases h)
    refine steps2_cons ?_ ?_
    · as_aux_lemma =>
      intro f w1 hb hd Q hK
      have e11 : f 11 = .agg (av z1) := hd.1 rfl
      have e12 : f 12 = .agg (av n1) := hd.2.1 rfl
      clear hd
      simp only [e11, e12] at hK
      have hK := Lib.hid hK
      have hq := fun w => (run_eql_N z1 n1 w).trans (by rw [q1.out])
      go_wp2
      exact hK.out _ _ rfl (Below.refl _ _) (fun h => by cases h)
    trivial
  intro f1 vd1 hb hf hne
  refine wpList_nil ?_
  have d13 : f1 13 = .bool false := hf 3 _ _ (by decide) rfl rfl
  clear hf hne
  simp only [d13]
  clear d13
  replace k2 := k2.below hb
  replace k3 := k3.below hb
  replace hb0 := hb0.trans (hb.mono hb0.size)
  clear hb
  go_wp2
  refine wp_region_grow2 18 (fun k => (Nat.ble 5 k && Nat.ble k 7) || (Nat.ble 14 k && Nat.ble k 28)) _ [] (fun j x' q => (rkF3L x1 y1 z1 n2 n3 n4 G2 vd1.heap.size).getD j (fun _ _ => True) x' q) (fun j => j == 15 || j == 16 || j == 17) (fun f => #[.agg (tcf x1 y1 z1), .agg #[.int .u64 t.a0, .int .u64 t.a1, .int .u64 t.a2, .int .u64 t.a3, .int .u64 t.a4], .pointer (some ⟨G2, 0, none⟩), .pointer (some ⟨G3, 0, none⟩), .bool false, f 5, f 6, f 7, undef, undef, f1 10, f1 11, f1 12, .bool false, f 14, f 15, f 16, f 17, f 18, f 19, f 20, f 21, f 22, f 23, f 24, f 25, f 26, f 27, f 28, undef, undef, undef, undef, undef, undef, undef, undef, undef, undef, undef, undef, undef, undef, undef, undef, undef, undef, undef, undef, undef, undef, undef, undef, undef, undef, undef, undef, undef, undef]) (fun f => rfl) (by kernel_rfl) (by kernel_rfl) (by kernel_rfl) (by kernel_rfl) (by kernel_rfl) (rkF3S _ _ _ _ _ _ _ _) (rkF3O _ _ _ _ _ _ _ _) ?_ ?_
  · refine steps2_cons ?_ ?_
    · as_aux_lemma =>
      intro f w1 hb hd Q hK
      clear hd
      have hK := Lib.hid hK
      go_wp2
      exact hK.out _ _ rfl (Below.refl _ _) (fun h => by cases h)
    refine steps2_cons ?_ ?_
    · as_aux_lemma =>
      intro f w1 hb hd Q hK
      have e14 : f 14 = .pointer (some ⟨G2, 0, none⟩) := hd.1 rfl
      clear hd
      simp only [e14] at hK
      have hK := Lib.hid hK
      refine ldTx (by simp only [e14]; kernel_rfl) rfl e14 (k2.below hb) ?_
      refine wpList_nil ?_
      simp only [e14]
      exact hK.out _ _ rfl (Below.refl _ _) (fun h => by cases h)
    refine steps2_cons ?_ ?_
    · as_aux_lemma =>
      intro f w1 hb hd Q hK
      clear hd
      have hK := Lib.hid hK
      go_wp2
      exact hK.out _ _ rfl (Below.refl _ _) (fun h => by cases h)
    refine steps2_cons ?_ ?_
    · as_aux_lemma =>
      intro f w1 hb hd Q hK
      have e16 : f 16 = .pointer (some ⟨G2, 0, none⟩) := hd.1 rfl
      clear hd
      simp only [e16] at hK
      have hK := Lib.hid hK
      refine ldTx (by simp only [e16]; kernel_rfl) rfl e16 (k2.below hb) ?_
      refine wpList_nil ?_
      simp only [e16]
      exact hK.out _ _ rfl (Below.refl _ _) (fun h => by cases h)
    refine steps2_cons ?_ ?_
    · as_aux_lemma =>
      intro f w1 hb hd Q hK
      have e15 : f 15 = .agg (av x1) := hd.1 rfl
      have e17 : f 17 = .agg (av x1) := hd.2.1 rfl
      clear hd
      simp only [e15, e17] at hK
      have hK := Lib.hid hK
      go_wp2_with fail
      refine (c2.out _).mono ?_
      rintro e w2 ⟨rfl, hb2⟩
      go_wp2
      exact hK.out _ _ rfl hb2 (fun h => by cases h)
    refine steps2_cons ?_ ?_
    · as_aux_lemma =>
      intro f w1 hb hd Q hK
      clear hd
      have hK := Lib.hid hK
      go_wp2
      exact hK.out _ _ rfl (Below.refl _ _) (fun h => by cases h)
    refine steps2_cons ?_ ?_
    · as_aux_lemma =>
      intro f w1 hb hd Q hK
      have e19 : f 19 = .pointer (some ⟨G2, 16, none⟩) := hd.1 rfl
      clear hd
      simp only [e19] at hK
      have hK := Lib.hid hK
      refine ldTy (by simp only [e19]; kernel_rfl) rfl e19 (k2.below hb) ?_
      refine wpList_nil ?_
      simp only [e19]
      exact hK.out _ _ rfl (Below.refl _ _) (fun h => by cases h)
    refine steps2_cons ?_ ?_
    · as_aux_lemma =>
      intro f w1 hb hd Q hK
      clear hd
      have hK := Lib.hid hK
      go_wp2
      exact hK.out _ _ rfl (Below.refl _ _) (fun h => by cases h)
    refine steps2_cons ?_ ?_
    · as_aux_lemma =>
      intro f w1 hb hd Q hK
      have e21 : f 21 = .pointer (some ⟨G2, 16, none⟩) := hd.1 rfl
      clear hd
      simp only [e21] at hK
      have hK := Lib.hid hK
      refine ldTy (by simp only [e21]; kernel_rfl) rfl e21 (k2.below hb) ?_
      refine wpList_nil ?_
      simp only [e21]
      exact hK.out _ _ rfl (Below.refl _ _) (fun h => by cases h)
    refine steps2_cons ?_ ?_
    · as_aux_lemma =>
      intro f w1 hb hd Q hK
      have e20 : f 20 = .agg (av y1) := hd.1 rfl
      have e22 : f 22 = .agg (av y1) := hd.2.1 rfl
      clear hd
      simp only [e20, e22] at hK
      have hK := Lib.hid hK
      go_wp2_with fail
      refine (c3.out _).mono ?_
      rintro e w2 ⟨rfl, hb2⟩
      go_wp2
      exact hK.out _ _ rfl hb2 (fun h => by cases h)
    refine steps2_cons ?_ ?_
    · as_aux_lemma =>
      intro f w1 hb hd Q hK
      clear hd
      have hK := Lib.hid hK
      go_wp2
      exact hK.out _ _ rfl (Below.refl _ _) (fun h => by cases h)
    refine steps2_cons ?_ ?_
    · as_aux_lemma =>
      intro f w1 hb hd Q hK
      have e24 : f 24 = .pointer (some ⟨G2, 32, none⟩) := hd.1 rfl
      clear hd
      simp only [e24] at hK
      have hK := Lib.hid hK
      refine ldTz (by simp only [e24]; kernel_rfl) rfl e24 (k2.below hb) ?_
      refine wpList_nil ?_
      simp only [e24]
      exact hK.out _ _ rfl (Below.refl _ _) (fun h => by cases h)
    refine steps2_cons ?_ ?_
    · as_aux_lemma =>
      intro f w1 hb hd Q hK
      clear hd
      have hK := Lib.hid hK
      go_wp2
      exact hK.out _ _ rfl (Below.refl _ _) (fun h => by cases h)
    refine steps2_cons ?_ ?_
    · as_aux_lemma =>
      intro f w1 hb hd Q hK
      have e26 : f 26 = .pointer (some ⟨G2, 32, none⟩) := hd.1 rfl
      clear hd
      simp only [e26] at hK
      have hK := Lib.hid hK
      refine ldTz (by simp only [e26]; kernel_rfl) rfl e26 (k2.below hb) ?_
      refine wpList_nil ?_
      simp only [e26]
      exact hK.out _ _ rfl (Below.refl _ _) (fun h => by cases h)
    refine steps2_cons ?_ ?_
    · as_aux_lemma =>
      intro f w1 hb hd Q hK
      have e25 : f 25 = .agg (av z1) := hd.1 rfl
      have e27 : f 27 = .agg (av z1) := hd.2.1 rfl
      clear hd
      simp only [e25, e27] at hK
      have hK := Lib.hid hK
      go_wp2_with fail
      refine (c4.out _).mono ?_
      rintro e w2 ⟨rfl, hb2⟩
      go_wp2
      exact hK.out _ _ rfl hb2 (fun h => by cases h)
    refine steps2_cons ?_ ?_
    · as_aux_lemma =>
      intro f w1 hb hd Q hK
      clear hd
      have hK := Lib.hid hK
      have hsz := hb.size
      go_wp2
      exact hK.out _ _ ⟨_, rfl, hsz, Blk.new _ _ _⟩ ((Below.refl _ _).alloc (Nat.le_refl _) _) (fun _ => ⟨_, rfl, Nat.le_refl _⟩)
    refine steps2_cons ?_ ?_
    · as_aux_lemma =>
      intro f w1 hb hd Q hK
      clear hd
      have hK := Lib.hid hK
      have hsz := hb.size
      go_wp2
      exact hK.out _ _ ⟨_, rfl, hsz, Blk.new _ _ _⟩ ((Below.refl _ _).alloc (Nat.le_refl _) _) (fun _ => ⟨_, rfl, Nat.le_refl _⟩)
    refine steps2_cons ?_ ?_
    · as_aux_lemma =>
      intro f w1 hb hd Q hK
      clear hd
      have hK := Lib.hid hK
      have hsz := hb.size
      go_wp2
      exact hK.out _ _ ⟨_, rfl, hsz, Blk.new _ _ _⟩ ((Below.refl _ _).alloc (Nat.le_refl _) _) (fun _ => ⟨_, rfl, Nat.le_refl _⟩)
    trivial
  intro f2 vd2 hb hf hne
  obtain ⟨g5, d5, lo5, bk5⟩ : NewB vd1.heap.size 33 #[.int .u64 0, .int .u64 0, .int .u64 0, .int .u64 0, .int .u64 0, .int .u64 0, .int .u64 0, .int .u64 0, .int .u64 0, .int .u64 0, .int .u64 0, .int .u64 0, .int .u64 0, .int .u64 0, .int .u64 0, .int .u64 0] (f2 5) vd2 := hf 15 _ _ (by decide) rfl rfl
  have d18 : f2 18 = .agg (av n2) := hf 4 _ _ (by decide) rfl rfl
  obtain ⟨g6, d6, lo6, bk6⟩ : NewB vd1.heap.size 33 #[.int .u64 0, .int .u64 0, .int .u64 0, .int .u64 0, .int .u64 0, .int .u64 0, .int .u64 0, .int .u64 0, .int .u64 0, .int .u64 0, .int .u64 0, .int .u64 0, .int .u64 0, .int .u64 0, .int .u64 0, .int .u64 0] (f2 6) vd2 := hf 16 _ _ (by decide) rfl rfl
  have d23 : f2 23 = .agg (av n3) := hf 9 _ _ (by decide) rfl rfl
  obtain ⟨g7, d7, lo7, bk7⟩ : NewB vd1.heap.size 33 #[.int .u64 0, .int .u64 0, .int .u64 0, .int .u64 0, .int .u64 0, .int .u64 0, .int .u64 0, .int .u64 0, .int .u64 0, .int .u64 0, .int .u64 0, .int .u64 0, .int .u64 0, .int .u64 0, .int .u64 0, .int .u64 0] (f2 7) vd2 := hf 17 _ _ (by decide) rfl rfl
  have d28 : f2 28 = .agg (av n4) := hf 14 _ _ (by decide) rfl rfl
  have ne5_6 : g5 ≠ g6 := by
    have := hne 15 16 _ _ _ _ (by decide) (by decide) (by decide) rfl rfl rfl rfl rfl rfl
    rw [d5, d6] at this
    exact fun h => this (by rw [h])
  have ne5_7 : g5 ≠ g7 := by
    have := hne 15 17 _ _ _ _ (by decide) (by decide) (by decide) rfl rfl rfl rfl rfl rfl
    rw [d5, d7] at this
    exact fun h => this (by rw [h])
  have ne6_7 : g6 ≠ g7 := by
    have := hne 16 17 _ _ _ _ (by decide) (by decide) (by decide) rfl rfl rfl rfl rfl rfl
    rw [d6, d7] at this
    exact fun h => this (by rw [h])
  clear hf hne
  simp only [d5, d18, d6, d23, d7, d28]
  clear d5 d18 d6 d23 d7 d28
  have ne_G2_5 : G2 ≠ g5 := by have := k2.lt; omega
  have ne_G2_6 : G2 ≠ g6 := by have := k2.lt; omega
  have ne_G2_7 : G2 ≠ g7 := by have := k2.lt; omega
  have ne_G3_5 : G3 ≠ g5 := by have := k3.lt; omega
  have ne_G3_6 : G3 ≠ g6 := by have := k3.lt; omega
  have ne_G3_7 : G3 ≠ g7 := by have := k3.lt; omega
  replace lo5 : w.heap.size ≤ g5 := Nat.le_trans hb0.size lo5
  replace lo6 : w.heap.size ≤ g6 := Nat.le_trans hb0.size lo6
  replace lo7 : w.heap.size ≤ g7 := Nat.le_trans hb0.size lo7
  replace k2 := k2.below hb
  replace k3 := k3.below hb
  replace hb0 := hb0.trans (hb.mono hb0.size)
  clear hb
  refine stN (old := fun _ => 0) rfl rfl rfl rfl bk5 ?_
  intro vs2_0 k5 hgr hsz
  replace k2 := k2.grown hgr (fun h => ne_G2_5 (by injection h))
  replace k3 := k3.grown hgr (fun h => ne_G3_5 (by injection h))
  replace bk6 := bk6.grown hgr (fun h => ne5_6 (by injection h with h; exact h.symm))
  replace bk7 := bk7.grown hgr (fun h => ne5_7 (by injection h with h; exact h.symm))
  replace hb0 := hb0.grown hgr hb0.size (fun k hk => by injection hk with hk; omega)
  clear hgr hsz
  refine stN (old := fun _ => 0) rfl rfl rfl rfl bk6 ?_
  intro vs2_1 k6 hgr hsz
  replace k2 := k2.grown hgr (fun h => ne_G2_6 (by injection h))
  replace k3 := k3.grown hgr (fun h => ne_G3_6 (by injection h))
  replace k5 := k5.grown hgr (fun h => ne5_6 (by injection h))
  replace bk7 := bk7.grown hgr (fun h => ne6_7 (by injection h with h; exact h.symm))
  replace hb0 := hb0.grown hgr hb0.size (fun k hk => by injection hk with hk; omega)
  clear hgr hsz
  refine stN (old := fun _ => 0) rfl rfl rfl rfl bk7 ?_
  intro vs2_2 k7 hgr hsz
  replace k2 := k2.grown hgr (fun h => ne_G2_7 (by injection h))
  replace k3 := k3.grown hgr (fun h => ne_G3_7 (by injection h))
  replace k5 := k5.grown hgr (fun h => ne5_7 (by injection h))
  replace k6 := k6.grown hgr (fun h => ne6_7 (by injection h))
  replace hb0 := hb0.grown hgr hb0.size (fun k hk => by injection hk with hk; omega)
  clear hgr hsz
  refine wpList_nil ?_
  clear ne_G2_5
  clear ne_G2_6
  clear ne_G2_7
  clear ne_G3_5
  clear ne_G3_6
  clear ne_G3_7
  clear ne5_6
  clear ne5_7
  clear ne6_7
  replace lo5 := Lib.hid lo5
  replace lo6 := Lib.hid lo6
  replace lo7 := Lib.hid lo7
  go_wp2
  refine wp_region_grow2 6 (fun k => Nat.beq k 8 || (Nat.ble 29 k && Nat.ble k 33)) _ [] (fun j x' q => (rkF4L n2 n3 n4 n5 n6 vs2_2.heap.size).getD j (fun _ _ => True) x' q) (fun j => j == 5) (fun f => #[.agg (tcf x1 y1 z1), .agg #[.int .u64 t.a0, .int .u64 t.a1, .int .u64 t.a2, .int .u64 t.a3, .int .u64 t.a4], .pointer (some ⟨G2, 0, none⟩), .pointer (some ⟨G3, 0, none⟩), .bool false, .pointer (some ⟨g5, 0, none⟩), .pointer (some ⟨g6, 0, none⟩), .pointer (some ⟨g7, 0, none⟩), f 8, undef, f1 10, f1 11, f1 12, .bool false, f2 14, f2 15, f2 16, f2 17, .agg (av n2), f2 19, f2 20, f2 21, f2 22, .agg (av n3), f2 24, f2 25, f2 26, f2 27, .agg (av n4), f 29, f 30, f 31, f 32, f 33, undef, undef, undef, undef, undef, undef, undef, undef, undef, undef, undef, undef, undef, undef, undef, undef, undef, undef, undef, undef, undef, undef, undef, undef, undef]) (fun f => rfl) (by kernel_rfl) (by kernel_rfl) (by kernel_rfl) (by kernel_rfl) (by kernel_rfl) (rkF4S _ _ _ _ _ _) (rkF4O _ _ _ _ _ _) ?_ ?_
  · refine steps2_cons ?_ ?_
    · as_aux_lemma =>
      intro f w1 hb hd Q hK
      clear hd
      have hK := Lib.hid hK
      refine ldNw (by kernel_rfl) rfl rfl (k6.below hb) ?_
      refine wpList_nil ?_
      exact hK.out _ _ rfl (Below.refl _ _) (fun h => by cases h)
    refine steps2_cons ?_ ?_
    · as_aux_lemma =>
      intro f w1 hb hd Q hK
      clear hd
      have hK := Lib.hid hK
      refine ldNw (by kernel_rfl) rfl rfl (k5.below hb) ?_
      refine wpList_nil ?_
      exact hK.out _ _ rfl (Below.refl _ _) (fun h => by cases h)
    refine steps2_cons ?_ ?_
    · as_aux_lemma =>
      intro f w1 hb hd Q hK
      have e29 : f 29 = .agg (av n3) := hd.1 rfl
      have e30 : f 30 = .agg (av n2) := hd.2.1 rfl
      clear hd
      simp only [e29, e30] at hK
      have hK := Lib.hid hK
      go_wp2_with fail
      refine (c5.out _).mono ?_
      rintro e w2 ⟨rfl, hb2⟩
      go_wp2
      exact hK.out _ _ rfl hb2 (fun h => by cases h)
    refine steps2_cons ?_ ?_
    · as_aux_lemma =>
      intro f w1 hb hd Q hK
      clear hd
      have hK := Lib.hid hK
      refine ldNw (by kernel_rfl) rfl rfl (k7.below hb) ?_
      refine wpList_nil ?_
      exact hK.out _ _ rfl (Below.refl _ _) (fun h => by cases h)
    refine steps2_cons ?_ ?_
    · as_aux_lemma =>
      intro f w1 hb hd Q hK
      have e31 : f 31 = .agg (av n5) := hd.1 rfl
      have e32 : f 32 = .agg (av n4) := hd.2.1 rfl
      clear hd
      simp only [e31, e32] at hK
      have hK := Lib.hid hK
      go_wp2_with fail
      refine (c6.out _).mono ?_
      rintro e w2 ⟨rfl, hb2⟩
      go_wp2
      exact hK.out _ _ rfl hb2 (fun h => by cases h)
    refine steps2_cons ?_ ?_
    · as_aux_lemma =>
      intro f w1 hb hd Q hK
      clear hd
      have hK := Lib.hid hK
      have hsz := hb.size
      go_wp2
      exact hK.out _ _ ⟨_, rfl, hsz, Blk.new _ _ _⟩ ((Below.refl _ _).alloc (Nat.le_refl _) _) (fun _ => ⟨_, rfl, Nat.le_refl _⟩)
    trivial
  intro f3 vd3 hb hf hne
  obtain ⟨g8, d8, lo8, bk8⟩ : NewB vs2_2.heap.size 33 #[.int .u64 0, .int .u64 0, .int .u64 0, .int .u64 0, .int .u64 0, .int .u64 0, .int .u64 0, .int .u64 0, .int .u64 0, .int .u64 0, .int .u64 0, .int .u64 0, .int .u64 0, .int .u64 0, .int .u64 0, .int .u64 0] (f3 8) vd3 := hf 5 _ _ (by decide) rfl rfl
  have d33 : f3 33 = .agg (av n6) := hf 4 _ _ (by decide) rfl rfl
  clear hf hne
  simp only [d8, d33]
  clear d8 d33
  have ne_G2_8 : G2 ≠ g8 := by have := k2.lt; omega
  have ne_G3_8 : G3 ≠ g8 := by have := k3.lt; omega
  have ne_g5_8 : g5 ≠ g8 := by have := k5.lt; omega
  have ne_g6_8 : g6 ≠ g8 := by have := k6.lt; omega
  have ne_g7_8 : g7 ≠ g8 := by have := k7.lt; omega
  replace lo8 : w.heap.size ≤ g8 := Nat.le_trans hb0.size lo8
  replace k2 := k2.below hb
  replace k3 := k3.below hb
  replace k5 := k5.below hb
  replace k6 := k6.below hb
  replace k7 := k7.below hb
  replace hb0 := hb0.trans (hb.mono hb0.size)
  clear hb
  refine stN (old := fun _ => 0) rfl rfl rfl rfl bk8 ?_
  intro vs3_0 k8 hgr hsz
  replace k2 := k2.grown hgr (fun h => ne_G2_8 (by injection h))
  replace k3 := k3.grown hgr (fun h => ne_G3_8 (by injection h))
  replace k5 := k5.grown hgr (fun h => ne_g5_8 (by injection h))
  replace k6 := k6.grown hgr (fun h => ne_g6_8 (by injection h))
  replace k7 := k7.grown hgr (fun h => ne_g7_8 (by injection h))
  replace hb0 := hb0.grown hgr hb0.size (fun k hk => by injection hk with hk; omega)
  clear hgr hsz
  refine wpList_nil ?_
  clear ne_G2_8
  clear ne_G3_8
  clear ne_g5_8
  clear ne_g6_8
  clear ne_g7_8
  replace lo8 := Lib.hid lo8
  go_wp2
  refine wp_region_grow2 10 (fun k => Nat.beq k 9 || (Nat.ble 34 k && Nat.ble k 42)) _ [] (fun j x' q => (rkF5L n2 n3 n4 n7 n8 n9 n10 n11 vs3_0.heap.size).getD j (fun _ _ => True) x' q) (fun j => j == 9) (fun f => #[.agg (tcf x1 y1 z1), .agg #[.int .u64 t.a0, .int .u64 t.a1, .int .u64 t.a2, .int .u64 t.a3, .int .u64 t.a4], .pointer (some ⟨G2, 0, none⟩), .pointer (some ⟨G3, 0, none⟩), .bool false, .pointer (some ⟨g5, 0, none⟩), .pointer (some ⟨g6, 0, none⟩), .pointer (some ⟨g7, 0, none⟩), .pointer (some ⟨g8, 0, none⟩), f 9, f1 10, f1 11, f1 12, .bool false, f2 14, f2 15, f2 16, f2 17, .agg (av n2), f2 19, f2 20, f2 21, f2 22, .agg (av n3), f2 24, f2 25, f2 26, f2 27, .agg (av n4), f3 29, f3 30, f3 31, f3 32, .agg (av n6), f 34, f 35, f 36, f 37, f 38, f 39, f 40, f 41, f 42, undef, undef, undef, undef, undef, undef, undef, undef, undef, undef, undef, undef, undef, undef, undef, undef]) (fun f => rfl) (by kernel_rfl) (by kernel_rfl) (by kernel_rfl) (by kernel_rfl) (by kernel_rfl) (rkF5S _ _ _ _ _ _ _ _ _) (rkF5O _ _ _ _ _ _ _ _ _) ?_ ?_
  · refine steps2_cons ?_ ?_
    · as_aux_lemma =>
      intro f w1 hb hd Q hK
      clear hd
      have hK := Lib.hid hK
      refine ldNw (by kernel_rfl) rfl rfl (k7.below hb) ?_
      refine wpList_nil ?_
      exact hK.out _ _ rfl (Below.refl _ _) (fun h => by cases h)
    refine steps2_cons ?_ ?_
    · as_aux_lemma =>
      intro f w1 hb hd Q hK
      clear hd
      have hK := Lib.hid hK
      refine ldNw (by kernel_rfl) rfl rfl (k7.below hb) ?_
      refine wpList_nil ?_
      exact hK.out _ _ rfl (Below.refl _ _) (fun h => by cases h)
    refine steps2_cons ?_ ?_
    · as_aux_lemma =>
      intro f w1 hb hd Q hK
      have e34 : f 34 = .agg (av n4) := hd.1 rfl
      have e35 : f 35 = .agg (av n4) := hd.2.1 rfl
      clear hd
      simp only [e34, e35] at hK
      have hK := Lib.hid hK
      go_wp2_with fail
      refine (c7.out _).mono ?_
      rintro e w2 ⟨rfl, hb2⟩
      go_wp2
      exact hK.out _ _ rfl hb2 (fun h => by cases h)
    refine steps2_cons ?_ ?_
    · as_aux_lemma =>
      intro f w1 hb hd Q hK
      clear hd
      have hK := Lib.hid hK
      go_wp2_with fail
      refine (c8.out _).mono ?_
      rintro e w2 ⟨rfl, hb2⟩
      go_wp2
      exact hK.out _ _ rfl hb2 (fun h => by cases h)
    refine steps2_cons ?_ ?_
    · as_aux_lemma =>
      intro f w1 hb hd Q hK
      clear hd
      have hK := Lib.hid hK
      refine ldNw (by kernel_rfl) rfl rfl (k5.below hb) ?_
      refine wpList_nil ?_
      exact hK.out _ _ rfl (Below.refl _ _) (fun h => by cases h)
    refine steps2_cons ?_ ?_
    · as_aux_lemma =>
      intro f w1 hb hd Q hK
      clear hd
      have hK := Lib.hid hK
      refine ldNw (by kernel_rfl) rfl rfl (k6.below hb) ?_
      refine wpList_nil ?_
      exact hK.out _ _ rfl (Below.refl _ _) (fun h => by cases h)
    refine steps2_cons ?_ ?_
    · as_aux_lemma =>
      intro f w1 hb hd Q hK
      have e38 : f 38 = .agg (av n2) := hd.1 rfl
      have e39 : f 39 = .agg (av n3) := hd.2.1 rfl
      clear hd
      simp only [e38, e39] at hK
      have hK := Lib.hid hK
      go_wp2_with fail
      refine (c9.out _).mono ?_
      rintro e w2 ⟨rfl, hb2⟩
      go_wp2
      exact hK.out _ _ rfl hb2 (fun h => by cases h)
    refine steps2_cons ?_ ?_
    · as_aux_lemma =>
      intro f w1 hb hd Q hK
      have e37 : f 37 = .agg (av n8) := hd.1 rfl
      have e40 : f 40 = .agg (av n9) := hd.2.1 rfl
      clear hd
      simp only [e37, e40] at hK
      have hK := Lib.hid hK
      go_wp2_with fail
      refine (c10.out _).mono ?_
      rintro e w2 ⟨rfl, hb2⟩
      go_wp2
      exact hK.out _ _ rfl hb2 (fun h => by cases h)
    refine steps2_cons ?_ ?_
    · as_aux_lemma =>
      intro f w1 hb hd Q hK
      have e36 : f 36 = .agg (av n7) := hd.1 rfl
      have e41 : f 41 = .agg (av n10) := hd.2.1 rfl
      clear hd
      simp only [e36, e41] at hK
      have hK := Lib.hid hK
      go_wp2_with fail
      refine (c11.out _).mono ?_
      rintro e w2 ⟨rfl, hb2⟩
      go_wp2
      exact hK.out _ _ rfl hb2 (fun h => by cases h)
    refine steps2_cons ?_ ?_
    · as_aux_lemma =>
      intro f w1 hb hd Q hK
      clear hd
      have hK := Lib.hid hK
      have hsz := hb.size
      go_wp2
      exact hK.out _ _ ⟨_, rfl, hsz, Blk.new _ _ _⟩ ((Below.refl _ _).alloc (Nat.le_refl _) _) (fun _ => ⟨_, rfl, Nat.le_refl _⟩)
    trivial
  intro f4 vd4 hb hf hne
  obtain ⟨g9, d9, lo9, bk9⟩ : NewB vs3_0.heap.size 33 #[.int .u64 0, .int .u64 0, .int .u64 0, .int .u64 0, .int .u64 0, .int .u64 0, .int .u64 0, .int .u64 0, .int .u64 0, .int .u64 0, .int .u64 0, .int .u64 0, .int .u64 0, .int .u64 0, .int .u64 0, .int .u64 0] (f4 9) vd4 := hf 9 _ _ (by decide) rfl rfl
  have d42 : f4 42 = .agg (av n11) := hf 8 _ _ (by decide) rfl rfl
  clear hf hne
  simp only [d9, d42]
  clear d9 d42
  have ne_G2_9 : G2 ≠ g9 := by have := k2.lt; omega
  have ne_G3_9 : G3 ≠ g9 := by have := k3.lt; omega
  have ne_g5_9 : g5 ≠ g9 := by have := k5.lt; omega
  have ne_g6_9 : g6 ≠ g9 := by have := k6.lt; omega
  have ne_g7_9 : g7 ≠ g9 := by have := k7.lt; omega
  have ne_g8_9 : g8 ≠ g9 := by have := k8.lt; omega
  replace lo9 : w.heap.size ≤ g9 := Nat.le_trans hb0.size lo9
  replace k2 := k2.below hb
  replace k3 := k3.below hb
  replace k5 := k5.below hb
  replace k6 := k6.below hb
  replace k7 := k7.below hb
  replace k8 := k8.below hb
  replace hb0 := hb0.trans (hb.mono hb0.size)
  clear hb
  refine stN (old := fun _ => 0) rfl rfl rfl rfl bk9 ?_
  intro vs4_0 k9 hgr hsz
  replace k2 := k2.grown hgr (fun h => ne_G2_9 (by injection h))
  replace k3 := k3.grown hgr (fun h => ne_G3_9 (by injection h))
  replace k5 := k5.grown hgr (fun h => ne_g5_9 (by injection h))
  replace k6 := k6.grown hgr (fun h => ne_g6_9 (by injection h))
  replace k7 := k7.grown hgr (fun h => ne_g7_9 (by injection h))
  replace k8 := k8.grown hgr (fun h => ne_g8_9 (by injection h))
  replace hb0 := hb0.grown hgr hb0.size (fun k hk => by injection hk with hk; omega)
  clear hgr hsz
  refine wpList_nil ?_
  clear ne_G2_9
  clear ne_G3_9
  clear ne_g5_9
  clear ne_g6_9
  clear ne_g7_9
  clear ne_g8_9
  replace lo9 := Lib.hid lo9
  go_wp2
  refine wp_region_grow2 17 (fun k => Nat.beq k 4 || (Nat.ble 43 k && Nat.ble k 58)) _ [] (fun j x' q => (rkF6L n6 n11).getD j (fun _ _ => True) x' q) (fun _ => false) (fun f => #[.agg (tcf x1 y1 z1), .agg #[.int .u64 t.a0, .int .u64 t.a1, .int .u64 t.a2, .int .u64 t.a3, .int .u64 t.a4], .pointer (some ⟨G2, 0, none⟩), .pointer (some ⟨G3, 0, none⟩), f 4, .pointer (some ⟨g5, 0, none⟩), .pointer (some ⟨g6, 0, none⟩), .pointer (some ⟨g7, 0, none⟩), .pointer (some ⟨g8, 0, none⟩), .pointer (some ⟨g9, 0, none⟩), f1 10, f1 11, f1 12, .bool false, f2 14, f2 15, f2 16, f2 17, .agg (av n2), f2 19, f2 20, f2 21, f2 22, .agg (av n3), f2 24, f2 25, f2 26, f2 27, .agg (av n4), f3 29, f3 30, f3 31, f3 32, .agg (av n6), f4 34, f4 35, f4 36, f4 37, f4 38, f4 39, f4 40, f4 41, .agg (av n11), f 43, f 44, f 45, f 46, f 47, f 48, f 49, f 50, f 51, f 52, f 53, f 54, f 55, f 56, f 57, f 58]) (fun f => rfl) (by kernel_rfl) (by kernel_rfl) (by kernel_rfl) (by kernel_rfl) (by kernel_rfl) (rkF6S _ _) (fun _ _ _ h => by cases h) ?_ ?_
  · refine steps2_cons ?_ ?_
    · as_aux_lemma =>
      intro f w1 hb hd Q hK
      clear hd
      have hK := Lib.hid hK
      refine ldNw (by kernel_rfl) rfl rfl (k8.below hb) ?_
      refine wpList_nil ?_
      exact hK.out _ _ rfl (Below.refl _ _) (fun h => by cases h)
    refine steps2_cons ?_ ?_
    · as_aux_lemma =>
      intro f w1 hb hd Q hK
      clear hd
      have hK := Lib.hid hK
      refine ldNw (by kernel_rfl) rfl rfl (k9.below hb) ?_
      refine wpList_nil ?_
      exact hK.out _ _ rfl (Below.refl _ _) (fun h => by cases h)
    refine steps2_cons ?_ ?_
    · as_aux_lemma =>
      intro f w1 hb hd Q hK
      have e43 : f 43 = .agg (av n6) := hd.1 rfl
      have e44 : f 44 = .agg (av n11) := hd.2.1 rfl
      clear hd
      simp only [e43, e44] at hK
      have hK := Lib.hid hK
      have hq := fun w => (run_eql_N n6 n11 w).trans (by rw [q2.out])
      go_wp2
      exact hK.out _ _ rfl (Below.refl _ _) (fun h => by cases h)
    refine steps2_cons ?_ ?_
    · as_aux_lemma =>
      intro f w1 hb hd Q hK
      have e45 : f 45 = .bool false := hd.1 rfl
      clear hd
      simp only [e45] at hK
      have hK := Lib.hid hK
      go_wp2
      exact hK.out _ _ rfl (Below.refl _ _) (fun h => by cases h)
    refine steps2_cons ?_ ?_
    · as_aux_lemma =>
      intro f w1 hb hd Q hK
      have e46 : f 46 = .bool false := hd.1 rfl
      clear hd
      simp only [e46] at hK
      have hK := Lib.hid hK
      go_wp2
      exact hK.out _ _ rfl (Below.refl _ _) (fun h => by cases h)
    refine steps2_cons ?_ ?_
    · as_aux_lemma =>
      intro f w1 hb hd Q hK
      have e47 : f 47 = undef := hd.1 rfl
      have e46 : f 46 = .bool false := hd.2.1 rfl
      clear hd
      simp only [e47, e46] at hK
      have hK := Lib.hid hK
      go_wp2
      exact hK.out _ _ rfl (Below.refl _ _) (fun h => by cases h)
    refine steps2_cons ?_ ?_
    · as_aux_lemma =>
      intro f w1 hb hd Q hK
      have e46 : f 46 = .bool false := hd.1 rfl
      clear hd
      simp only [e46] at hK
      have hK := Lib.hid hK
      go_wp2
      exact hK.out _ _ rfl (Below.refl _ _) (fun h => by cases h)
    refine steps2_cons ?_ ?_
    · as_aux_lemma =>
      intro f w1 hb hd Q hK
      have e49 : f 49 = undef := hd.1 rfl
      have e46 : f 46 = .bool false := hd.2.1 rfl
      clear hd
      simp only [e49, e46] at hK
      have hK := Lib.hid hK
      go_wp2
      exact hK.out _ _ rfl (Below.refl _ _) (fun h => by cases h)
    refine steps2_cons ?_ ?_
    · as_aux_lemma =>
      intro f w1 hb hd Q hK
      have e48 : f 48 = undef := hd.1 rfl
      have e50 : f 50 = undef := hd.2.1 rfl
      have e46 : f 46 = .bool false := hd.2.2.2.1 rfl
      clear hd
      simp only [e48, e50, e46] at hK
      have hK := Lib.hid hK
      go_wp2
      exact hK.out _ _ rfl (Below.refl _ _) (fun h => by cases h)
    refine steps2_cons ?_ ?_
    · as_aux_lemma =>
      intro f w1 hb hd Q hK
      have e46 : f 46 = .bool false := hd.1 rfl
      clear hd
      simp only [e46] at hK
      have hK := Lib.hid hK
      go_wp2
      exact hK.out _ _ rfl (Below.refl _ _) (fun h => by cases h)
    refine steps2_cons ?_ ?_
    · as_aux_lemma =>
      intro f w1 hb hd Q hK
      have e52 : f 52 = undef := hd.1 rfl
      have e46 : f 46 = .bool false := hd.2.1 rfl
      clear hd
      simp only [e52, e46] at hK
      have hK := Lib.hid hK
      go_wp2
      exact hK.out _ _ rfl (Below.refl _ _) (fun h => by cases h)
    refine steps2_cons ?_ ?_
    · as_aux_lemma =>
      intro f w1 hb hd Q hK
      have e46 : f 46 = .bool false := hd.1 rfl
      clear hd
      simp only [e46] at hK
      have hK := Lib.hid hK
      go_wp2
      exact hK.out _ _ rfl (Below.refl _ _) (fun h => by cases h)
    refine steps2_cons ?_ ?_
    · as_aux_lemma =>
      intro f w1 hb hd Q hK
      have e54 : f 54 = undef := hd.1 rfl
      have e46 : f 46 = .bool false := hd.2.1 rfl
      clear hd
      simp only [e54, e46] at hK
      have hK := Lib.hid hK
      go_wp2
      exact hK.out _ _ rfl (Below.refl _ _) (fun h => by cases h)
    refine steps2_cons ?_ ?_
    · as_aux_lemma =>
      intro f w1 hb hd Q hK
      have e53 : f 53 = undef := hd.1 rfl
      have e55 : f 55 = undef := hd.2.1 rfl
      have e46 : f 46 = .bool false := hd.2.2.2.1 rfl
      clear hd
      simp only [e53, e55, e46] at hK
      have hK := Lib.hid hK
      go_wp2
      exact hK.out _ _ rfl (Below.refl _ _) (fun h => by cases h)
    refine steps2_cons ?_ ?_
    · as_aux_lemma =>
      intro f w1 hb hd Q hK
      have e51 : f 51 = undef := hd.1 rfl
      have e56 : f 56 = undef := hd.2.1 rfl
      have e46 : f 46 = .bool false := hd.2.2.1 rfl
      clear hd
      simp only [e51, e56, e46] at hK
      have hK := Lib.hid hK
      go_wp2
      exact hK.out _ _ rfl (Below.refl _ _) (fun h => by cases h)
    refine steps2_cons ?_ ?_
    · as_aux_lemma =>
      intro f w1 hb hd Q hK
      have e46 : f 46 = .bool false := hd.1 rfl
      have e57 : f 57 = undef := hd.2.1 rfl
      clear hd
      simp only [e46, e57] at hK
      have hK := Lib.hid hK
      go_wp2
      exact hK.out _ _ rfl (Below.refl _ _) (fun h => by cases h)
    refine steps2_cons ?_ ?_
    · as_aux_lemma =>
      intro f w1 hb hd Q hK
      have e58 : f 58 = .bool false := hd.1 rfl
      clear hd
      simp only [e58] at hK
      have hK := Lib.hid hK
      go_wp2
      exact hK.out _ _ rfl (Below.refl _ _) (fun h => by cases h)
    trivial
  intro f5 vd5 hb hf hne
  refine wpList_nil ?_
  have d4 : f5 4 = .bool false := hf 16 _ _ (by decide) rfl rfl
  clear hf hne
  simp only [d4]
  clear d4
  replace k2 := k2.below hb
  replace k3 := k3.below hb
  replace k5 := k5.below hb
  replace k6 := k6.below hb
  replace k7 := k7.below hb
  replace k8 := k8.below hb
  replace k9 := k9.below hb
  replace hb0 := hb0.trans (hb.mono hb0.size)
  clear hb
  go_wp2
  go_returns
  exact ⟨rfl, hb0⟩
end Go.Proofs.YtpaldgajkhmhbaaDoor

namespace Fe
/-- what On of the reference tells -/
def rOnP (a b c d : Nat) : Bool := !decide (c = 0) && (decide ((b * b % P + (P - a * a % P)) % P * (c * c % P) % P = ((c * c % P) * (c * c % P) % P + dN * (a * a % P * (b * b % P) % P) % P) % P) && decide (d * c % P = a * b % P))
theorem ron_on {a b c d : Nat} (lc : c < P) : Go.Proofs.YtpaldgajkhmhbaaDoor.onP a b c d = rOnP a b c d := by
  unfold Go.Proofs.YtpaldgajkhmhbaaDoor.onP rOnP
  by_cases hc : c = 0
  · rw [decide_eq_true hc]; rfl
  rw [decide_eq_false hc, Bool.not_false, Bool.true_and, Bool.true_and]
  have hz : zf c ≠ 0 := fun e => hc ((zf_zero lc).1 e)
  by_cases ht : d * c % P = a * b % P
  · rw [decide_eq_true ht, Bool.true_and, Bool.and_true]
    refine decide_eq_decide.2 ?_
    rw [zf_eq (mod_lt' _) (mod_lt' _), zf_mod, zf_mul, zf_mod, zf_mul] at ht
    rw [zf_eq (mod_lt' _) (mod_lt' _), zf_eq (mod_lt' _) (mod_lt' _)]
    simp only [zf_mod, zf_mul, zf_add, zf_sub' _ _ (mod_lt' _)]
    rw [show zf dN = dF from rfl]
    generalize dF = dd at *
    generalize zf a = x at *
    generalize zf b = y at *
    generalize zf d = t at *
    generalize zf c = z at *
    clear hc lc
    constructor
    · intro h; clear hz; grind
    intro h
    refine f_can (f_ne hz hz) ?_
    clear hz
    grind
  rw [decide_eq_false ht, Bool.false_and, Bool.and_false]
end Fe
namespace Go.Proofs.YtpaldgajkhmhbaaDoor
open Go.RowKit
theorem ron_c {T : Fe.E} {a b c d : Nat} (la : a < Fe.P) (lb : b < Fe.P) (lc : c < Fe.P) (hT : El T d) (w : World) :
    Calls Tryd.prog 27 #[.agg (tcs a b c), .agg #[.int .u64 T.a0, .int .u64 T.a1, .int .u64 T.a2, .int .u64 T.a3, .int .u64 T.a4]] w (PostV (.bool (Fe.rOnP a b c d)) w) := by
  have l := Fe.mod_lt'
  have e0 := eqN_dec lc Fe.P_pos
  unfold Fe.rOnP
  cases h0 : decide (c = 0)
  · rw [Bool.not_false, Bool.true_and]
    have e1 := eqN_dec (l ((b * b % Fe.P + (Fe.P - a * a % Fe.P)) % Fe.P * (c * c % Fe.P))) (l ((c * c % Fe.P) * (c * c % Fe.P) % Fe.P + Fe.dN * (a * a % Fe.P * (b * b % Fe.P) % Fe.P) % Fe.P))
    have c2 := rMul_c a a la la
    have c3 := rMul_c b b lb lb
    have c4 := rMul_c c c lc lc
    have c5 := rSub_c (b * b % Fe.P) (a * a % Fe.P) (l _) (l _)
    have c6 := rMul_c ((b * b % Fe.P + (Fe.P - a * a % Fe.P)) % Fe.P) (c * c % Fe.P) (l _) (l _)
    have c7 := rMul_c (c * c % Fe.P) (c * c % Fe.P) (l _) (l _)
    have c9 := rMul_c (a * a % Fe.P) (b * b % Fe.P) (l _) (l _)
    have c10 := rMul_c Fe.dN (a * a % Fe.P * (b * b % Fe.P) % Fe.P) Fe.dN_lt (l _)
    have c11 := rAdd_c ((c * c % Fe.P) * (c * c % Fe.P) % Fe.P) (Fe.dN * (a * a % Fe.P * (b * b % Fe.P) % Fe.P) % Fe.P) (l _) (l _)
    cases h1 : decide ((b * b % Fe.P + (Fe.P - a * a % Fe.P)) % Fe.P * (c * c % Fe.P) % Fe.P = ((c * c % Fe.P) * (c * c % Fe.P) % Fe.P + Fe.dN * (a * a % Fe.P * (b * b % Fe.P) % Fe.P) % Fe.P) % Fe.P)
    · rw [Bool.false_and]
      exact rOn_F (number_c 0 (by decide)) (e0.trans h0) c2 c3 c4 c5 c6 c7 rD_c c9 c10 c11 (e1.trans h1) w
    rw [Bool.true_and]
    exact rOn_T (number_c 0 (by decide)) (e0.trans h0) c2 c3 c4 c5 c6 c7 rD_c c9 c10 c11 (e1.trans h1) (from_c hT) (rMul_c d c hT.lt lc) (rMul_c a b la lb) (eqN_dec (l (d * c)) (l (a * b))) w
  exact rOn_Z (number_c 0 (by decide)) (e0.trans h0) w
end Go.Proofs.YtpaldgajkhmhbaaDoor

namespace Go.Proofs.YtpaldgajkhmhbaaDoor
open Go.RowKit
/-- any right element is answered -/
def PostAny (w : World) (e : Ending) (w' : World) : Prop := ∃ x : Fe.E, e = .returned (.agg (ev x)) ∧ Fe.R x ∧ Below w.heap.size w w'
theorem retEv {fn : Func} {p : Tmp} {x : Fe.E} {g : Nat} {tmps : Array Value} {D : List Deferred} {w : World} {R : Ending → World → Prop} (h : fn.results = #[.cell p 27]) (hp : tmps.getD p undef = .pointer (some ⟨g, 0, none⟩)) (hg : Blk w g 27 (ev x)) (hD : D = []) (hR : R (.returned (.agg (ev x))) w) : bodyPost Tryd.prog fn R .ret ⟨tmps, D⟩ w :=
  bodyPost_ret (results_cell_row h tmps w g 27 (ev x) (0, 0) _ hp hg E_under rfl E_size) hD hR
/-- limb i turned -/
def setL (x : Fe.E) (i : Nat) (v : Int) : Fe.E := match i with | 0 => { x with a0 := v } | 1 => { x with a1 := v } | 2 => { x with a2 := v } | 3 => { x with a3 := v } | _ => { x with a4 := v }
theorem setL_r {x : Fe.E} (h : Fe.R x) (i : Nat) {v : Int} (h0 : 0 ≤ v) (h1 : v < 4503599627370496) : Fe.R (setL x i v) := by
  unfold setL
  simp only [Fe.R] at h ⊢
  split <;> simp only <;> omega
theorem setL_ev (x : Fe.E) {i : Nat} (hi : i < 5) (v : Int) : (ev x).setIfInBounds i (.int .u64 v) = ev (setL x i v) := by
  match i, hi with | 0, _ => rfl | 1, _ => rfl | 2, _ => rfl | 3, _ => rfl | 4, _ => rfl
/-- n words lie at p: nothing is asked where there are none -/
def UAt (w : World) (p : Option Addr) (n : Nat) (b : Nat → Int) : Prop := 0 < n → ∃ g o, p = some ⟨g, o, none⟩ ∧ g < w.heap.size ∧ ∀ j, j < n → w.cell? ⟨g, o + j, none⟩ = some (.int .u64 (b j))
theorem UAt.below {w w' : World} {p : Option Addr} {n : Nat} {b : Nat → Int} (h : UAt w p n b) (hb : Below w.heap.size w w') : UAt w' p n b := fun hn => by
  obtain ⟨g, o, e, hg, hc⟩ := h hn
  exact ⟨g, o, e, Nat.lt_of_lt_of_le hg hb.size, fun j hj => (hb.cell (p := ⟨g, o + j, none⟩) hg).trans (hc j hj)⟩
set_option maxRecDepth 20000 in
set_option maxHeartbeats 4000000 in
theorem limbs_c (p : Option Addr) (n c : Nat) (b : Nat → Int) (hr : ∀ j, 0 ≤ b j ∧ b j < 18446744073709551616) (w : World) (hB : UAt w p n b) : Calls Tryd.prog 22 #[.slice p n c] w (PostAny w) := by
  replace hB := Lib.hid hB
  replace hr := Lib.hid hr
  go_enter Tryd.func22, Tryd.ntmps22
  go_wp2
  refine at_world (fun W0 hW => ?_)
  have k2 : Blk W0 w.heap.size 27 (ev ⟨0, 0, 0, 0, 0⟩) := by rw [hW]; exact (Blk.new _ _ _).alloc _
  have k3 : Blk W0 (w.heap.size + 1) 27 (ev ⟨0, 0, 0, 0, 0⟩) := by rw [hW]; exact blk_at (by simp) (Blk.new _ _ _)
  have hb0 : Below w.heap.size w W0 := by rw [hW]; go_grown
  clear hW
  obtain ⟨G3, hG3⟩ : ∃ G, G = w.heap.size + 1 := ⟨_, rfl⟩
  obtain ⟨G2, hG2⟩ : ∃ G, G = w.heap.size := ⟨_, rfl⟩
  rw [← hG3] at k3 ⊢
  rw [← hG2] at k2 ⊢
  have lo3 : w.heap.size ≤ G3 := by omega
  have lo2 : w.heap.size ≤ G2 := by omega
  have n23 : G2 ≠ G3 := by omega
  clear hG2 hG3
  go_loopw [4] (fun i wr => ∃ k : Nat, k ≤ 5 ∧ k ≤ n ∧ i = .int .i64 k ∧ (∃ x : Fe.E, Blk wr G3 27 (ev x) ∧ Fe.R x) ∧ Blk wr G2 27 (ev ⟨0, 0, 0, 0, 0⟩) ∧ Below w.heap.size w wr) (fun i _ => (5 - intOf i).toNat)
  case atStart => exact ⟨0, by omega, by omega, rfl, ⟨_, k3, by simp only [Fe.R]; omega⟩, k2, hb0⟩
  case round =>
    clear k3 k2 hb0
    obtain ⟨k, h5, hkn, hi, ⟨x, k3, hx⟩, k2, hb0⟩ := hrel
    subst hi
    by_cases he : k < n ∧ k < 5
    · obtain ⟨hk1, hk2⟩ := he
      obtain ⟨g, o, rfl, hg, hc⟩ := (hB.out.below hb0) (by omega)
      have i1 : (k : Int) < (n : Int) := by omega
      have i2 : (k : Int) < 5 := by omega
      have i0 : (0 : Int) ≤ (k : Int) := by omega
      have cg := hc k hk1
      have hv := hr.out k
      obtain ⟨v, hvv⟩ : ∃ v, v = b k := ⟨_, rfl⟩
      rw [← hvv] at cg hv
      clear hvv hc
      have c3 : wr.cell? ⟨G3, k, none⟩ = (ev x)[k]? := k3.cell k
      have f3 := fun j => k3.frozen j
      obtain ⟨u, hu⟩ : ∃ u, (ev x)[k]? = some (.int .u64 u) := by
        match k, hk2 with | 0, _ => exact ⟨_, rfl⟩ | 1, _ => exact ⟨_, rfl⟩ | 2, _ => exact ⟨_, rfl⟩ | 3, _ => exact ⟨_, rfl⟩ | 4, _ => exact ⟨_, rfl⟩
      rw [hu] at c3
      clear hu
      have k3lt := k3.lt
      have hxr := Lib.hid (setL_r hx k (v := v % 4503599627370496) (by omega) (by omega))
      have k3' := Lib.hid (k3.set_ k (.int .u64 (v % 4503599627370496)))
      have k2' := Lib.hid (k2.far (p := ⟨G3, k, none⟩) n23 (.int .u64 (v % 4503599627370496)))
      have hb' := Lib.hid (hb0.setCell (p := ⟨G3, k, none⟩) lo3 (.int .u64 (v % 4503599627370496)))
      clear k3 k2 hb0 hx h5 hkn hg
      go_wp2
      go_roundw
      case rel => exact ⟨k + 1, by omega, by omega, by simp, ⟨setL x k (v % 4503599627370496), by have := k3'.out; rwa [setL_ev x hk2] at this, hxr.out⟩, k2'.out, hb'.out⟩
      case measure => simp [intOf]; omega
    replace hx := Lib.hid hx
    have hor : n = k ∨ k = 5 := by omega
    clear he
    rcases hor with rfl | rfl
    · go_wp2_with (first | (refine ldE rfl rfl rfl k3 ?_) | (refine stE rfl rfl rfl rfl k2 ?_; intro w9 m2 hgr hsz))
      exact retEv rfl rfl m2 rfl ⟨x, rfl, hx.out, hb0.grown hgr hb0.size (fun k hk => by injection hk with hk; omega)⟩
    by_cases hn5 : (5 : Int) < n
    · go_wp2_with (first | (refine ldE rfl rfl rfl k3 ?_) | (refine stE rfl rfl rfl rfl k2 ?_; intro w9 m2 hgr hsz))
      exact retEv rfl rfl m2 rfl ⟨x, rfl, hx.out, hb0.grown hgr hb0.size (fun k hk => by injection hk with hk; omega)⟩
    go_wp2_with (first | (refine ldE rfl rfl rfl k3 ?_) | (refine stE rfl rfl rfl rfl k2 ?_; intro w9 m2 hgr hsz))
    exact retEv rfl rfl m2 rfl ⟨x, rfl, hx.out, hb0.grown hgr hb0.size (fun k hk => by injection hk with hk; omega)⟩
set_option maxRecDepth 20000 in
set_option maxHeartbeats 2000000 in
theorem pick5_c (x : Int) (w : World) : Calls Tryd.prog 24 #[.int .i64 x, .int .i64 5] w fun e w' => ∃ k : Int, e = .returned (.int .i64 k) ∧ 0 ≤ k ∧ k < 5 ∧ w' = w := by
  have ht : -5 < x.tmod 5 ∧ x.tmod 5 < 5 := by
    have h1 := Int.tmod_lt_of_pos x (show (0 : Int) < 5 by decide)
    have h2 : -5 < x.tmod 5 := by
      have h3 := Int.tmod_lt_of_pos (-x) (show (0 : Int) < 5 by decide)
      rw [Int.neg_tmod] at h3
      omega
    exact ⟨h2, h1⟩
  obtain ⟨r, hr⟩ : ∃ r, r = x.tmod 5 := ⟨_, rfl⟩
  rw [← hr] at ht
  have hw : IntKind.i64.wrap r = r := by rw [IntKind.wrap_i64]; omega
  have hw5 : IntKind.i64.wrap (r + 5) = r + 5 := by rw [IntKind.wrap_i64]; omega
  go_enter Tryd.func24, Tryd.ntmps24
  by_cases hn : r < 0
  · go_wp2
    rw [← hr]
    go_returns
    exact ⟨r + 5, rfl, by omega, by omega, rfl⟩
  go_wp2
  rw [← hr]
  go_returns
  exact ⟨r, rfl, by omega, by omega, rfl⟩
end Go.Proofs.YtpaldgajkhmhbaaDoor

namespace Go.Proofs.YtpaldgajkhmhbaaDoor
open Go.RowKit
theorem same_reflO (x y : Fin Fe.P) : (decide (x = x) && decide (y = y)) = true := by rw [decide_eq_true rfl, decide_eq_true rfl]; rfl
theorem blk_setMid {g : Nat} {t : TypeId} : ∀ (vs : List Value) (o : Nat) (w : World) (cs post : List Value), Blk w g t (cs ++ (vs ++ post)).toArray → ∀ us : List Value, us.length = vs.length → cs.length = o →
    Blk (w.setCells g o us) g t (cs ++ (us ++ post)).toArray
  | [], o, w, cs, post, h, [], _, _ => h
  | v :: vs, o, w, cs, post, h, u :: us, hl, ho => by
    have h1 := h.set_ o u
    have e : ((cs ++ (v :: vs ++ post)).toArray.setIfInBounds o u) = ((cs ++ [u]) ++ (vs ++ post)).toArray := by
      subst ho
      simp
    rw [e] at h1
    have := blk_setMid vs (o + 1) _ (cs ++ [u]) post h1 us (by simpa using hl) (by simp [ho])
    simpa [World.setCells] using this
section
variable {ops : Array Oper} {rest : List Oper} {o : Oper} {a : Act} {w : World} {Q : Exit → Act → World → Prop}
theorem stEm (p : Nat) (pre mid post : List Value) (hpre : pre.length = p) (hmid : mid.length = 5) (hgd : o.guard = none) {x y : Operand} (ho : o.op = .store 27 x y) {g : Nat} {e : Fe.E} {ty : TypeId} (hx : a.eval x = .pointer (some ⟨g, p, none⟩)) (hy : a.eval y = .agg (ev e)) (hg : Blk w g ty (pre ++ (mid ++ post)).toArray)
    (h : ∀ w', Blk w' g ty (pre ++ ((ev e).toList ++ post)).toArray → w.grownBy w' (some g) → w'.heap.size = w.heap.size → wpList Tryd.prog ops Q rest (a.put o.dst undef) w') : wpList Tryd.prog ops Q (o :: rest) a w := by
  refine wpList_store_mid hgd 27 x y ho g p (ev e) hx hy (fun j hj => ?_) E_size (by kernel_rfl) (h _ ?_ (grown_setCells g _ p w) ?_)
  · have hj5 : j < 5 := hj
    rw [hg.cell (p + j), Array.getElem?_eq_getElem (by simp; omega)]
    exact ⟨rfl, hg.frozen _⟩
  · exact blk_setMid mid p w pre post hg (ev e).toList (by rw [hmid]; rfl) hpre
  have hsz : ∀ (us : List Value) (o : Nat) (w : World), (w.setCells g o us).heap.size = w.heap.size := by
    intro us
    induction us with
    | nil => intro o w; rfl
    | cons u us ih => intro o w; rw [World.setCells, ih]; simp [World.setCell]
  exact hsz _ _ _
theorem stEx (hgd : o.guard = none) {x y : Operand} (ho : o.op = .store 27 x y) {g : Nat} {e X Y Z T : Fe.E} {ty : TypeId} (hx : a.eval x = .pointer (some ⟨g, 0, none⟩)) (hy : a.eval y = .agg (ev e)) (hg : Blk w g ty (pcs X Y Z T))
    (h : ∀ w', Blk w' g ty (pcs e Y Z T) → w.grownBy w' (some g) → w'.heap.size = w.heap.size → wpList Tryd.prog ops Q rest (a.put o.dst undef) w') : wpList Tryd.prog ops Q (o :: rest) a w :=
  stEm 0 [] (ev X).toList ((ev Y).toList ++ (ev Z).toList ++ (ev T).toList) rfl rfl hgd ho hx hy hg h
theorem stEz (hgd : o.guard = none) {x y : Operand} (ho : o.op = .store 27 x y) {g : Nat} {e X Y Z T : Fe.E} {ty : TypeId} (hx : a.eval x = .pointer (some ⟨g, 10, none⟩)) (hy : a.eval y = .agg (ev e)) (hg : Blk w g ty (pcs X Y Z T))
    (h : ∀ w', Blk w' g ty (pcs X Y e T) → w.grownBy w' (some g) → w'.heap.size = w.heap.size → wpList Tryd.prog ops Q rest (a.put o.dst undef) w') : wpList Tryd.prog ops Q (o :: rest) a w :=
  stEm 10 ((ev X).toList ++ (ev Y).toList) (ev Z).toList (ev T).toList rfl rfl hgd ho hx hy hg h
theorem stEt (hgd : o.guard = none) {x y : Operand} (ho : o.op = .store 27 x y) {g : Nat} {e X Y Z T : Fe.E} {ty : TypeId} (hx : a.eval x = .pointer (some ⟨g, 15, none⟩)) (hy : a.eval y = .agg (ev e)) (hg : Blk w g ty (pcs X Y Z T))
    (h : ∀ w', Blk w' g ty (pcs X Y Z e) → w.grownBy w' (some g) → w'.heap.size = w.heap.size → wpList Tryd.prog ops Q rest (a.put o.dst undef) w') : wpList Tryd.prog ops Q (o :: rest) a w :=
  stEm 15 ((ev X).toList ++ (ev Y).toList ++ (ev Z).toList) (ev T).toList [] rfl rfl hgd ho hx hy hg h
end
def on16L (X : Fe.E) (Y : Fe.E) (Z : Fe.E) (T : Fe.E) (by5 : Fe.E) (na : Nat) (nb : Nat) (nc : Nat) (nd : Nat) (G14 : Nat) : List (Value → World → Prop) := [
  Eq1 (.pointer (some ⟨G14, 0, none⟩)),
  Eq1 (.agg #[.int .u64 X.a0, .int .u64 X.a1, .int .u64 X.a2, .int .u64 X.a3, .int .u64 X.a4]),
  Eq1 (.agg #[.int .u64 by5.a0, .int .u64 by5.a1, .int .u64 by5.a2, .int .u64 by5.a3, .int .u64 by5.a4]),
  ElP (na * (Fe.nv by5) % Fe.P),
  Eq1 (.pointer (some ⟨G14, 5, none⟩)),
  Eq1 (.agg #[.int .u64 Y.a0, .int .u64 Y.a1, .int .u64 Y.a2, .int .u64 Y.a3, .int .u64 Y.a4]),
  Eq1 (.agg #[.int .u64 by5.a0, .int .u64 by5.a1, .int .u64 by5.a2, .int .u64 by5.a3, .int .u64 by5.a4]),
  ElP (nb * (Fe.nv by5) % Fe.P),
  Eq1 (.pointer (some ⟨G14, 10, none⟩)),
  Eq1 (.agg #[.int .u64 Z.a0, .int .u64 Z.a1, .int .u64 Z.a2, .int .u64 Z.a3, .int .u64 Z.a4]),
  Eq1 (.agg #[.int .u64 by5.a0, .int .u64 by5.a1, .int .u64 by5.a2, .int .u64 by5.a3, .int .u64 by5.a4]),
  ElP (nc * (Fe.nv by5) % Fe.P),
  Eq1 (.pointer (some ⟨G14, 15, none⟩)),
  Eq1 (.agg #[.int .u64 T.a0, .int .u64 T.a1, .int .u64 T.a2, .int .u64 T.a3, .int .u64 T.a4]),
  Eq1 (.agg #[.int .u64 by5.a0, .int .u64 by5.a1, .int .u64 by5.a2, .int .u64 by5.a3, .int .u64 by5.a4]),
  ElP (nd * (Fe.nv by5) % Fe.P),
  PtP (na * (Fe.nv by5) % Fe.P) (nb * (Fe.nv by5) % Fe.P) (nc * (Fe.nv by5) % Fe.P) (nd * (Fe.nv by5) % Fe.P)]
theorem on16S (X : Fe.E) (Y : Fe.E) (Z : Fe.E) (T : Fe.E) (by5 : Fe.E) (na : Nat) (nb : Nat) (nc : Nat) (nd : Nat) (G14 : Nat) : ∀ j x' q q', (on16L X Y Z T by5 na nb nc nd G14).getD j (fun _ _ => True) x' q → Below q.heap.size q q' → (on16L X Y Z T by5 na nb nc nd G14).getD j (fun _ _ => True) x' q' := by
  refine sta_all _ ?_
  simp only [on16L, List.mem_cons, forall_eq_or_imp, List.not_mem_nil, false_implies, implies_true, and_true]
  exact ⟨sta_eq _, sta_eq _, sta_eq _, sta_el _, sta_eq _, sta_eq _, sta_eq _, sta_el _, sta_eq _, sta_eq _, sta_eq _, sta_el _, sta_eq _, sta_eq _, sta_eq _, sta_el _, sta_pt _ _ _ _⟩
def on17L (x1 : Fe.E) (x2 : Fe.E) (x3 : Fe.E) (x4 : Fe.E) (X6 : Fe.E) (Y6 : Fe.E) (Z6 : Fe.E) (T6 : Fe.E) (G13 : Nat) (G14 : Nat) (v1 : Bool) (v2 : Bool) (F1 : Nat → Int) (H1 : Nat → Int) (J1 : Nat → Int) (F2 : Nat → Int) (H2 : Nat → Int) (J2 : Nat → Int) : List (Value → World → Prop) := [
  Eq1 (.agg (pcs x1 x2 x3 x4)),
  Eq1 (.bool v1),
  Eq1 (.agg (pcs x1 x2 x3 x4)),
  Eq1 (.agg (tcf F1 H1 J1)),
  Eq1 (.pointer (some ⟨G13, 15, none⟩)),
  Eq1 (.agg #[.int .u64 x4.a0, .int .u64 x4.a1, .int .u64 x4.a2, .int .u64 x4.a3, .int .u64 x4.a4]),
  Eq1 (.bool v1),
  Eq1 (.bool false),
  Eq1 (.bool false),
  Eq1 (.agg (pcs X6 Y6 Z6 T6)),
  Eq1 (.bool v2),
  Eq1 (.agg (pcs X6 Y6 Z6 T6)),
  Eq1 (.agg (tcf F2 H2 J2)),
  Eq1 (.pointer (some ⟨G14, 15, none⟩)),
  Eq1 (.agg #[.int .u64 T6.a0, .int .u64 T6.a1, .int .u64 T6.a2, .int .u64 T6.a3, .int .u64 T6.a4]),
  Eq1 (.bool v2),
  Eq1 (.bool false),
  Eq1 (.bool false)]
theorem on17S (x1 : Fe.E) (x2 : Fe.E) (x3 : Fe.E) (x4 : Fe.E) (X6 : Fe.E) (Y6 : Fe.E) (Z6 : Fe.E) (T6 : Fe.E) (G13 : Nat) (G14 : Nat) (v1 : Bool) (v2 : Bool) (F1 : Nat → Int) (H1 : Nat → Int) (J1 : Nat → Int) (F2 : Nat → Int) (H2 : Nat → Int) (J2 : Nat → Int) : ∀ j x' q q', (on17L x1 x2 x3 x4 X6 Y6 Z6 T6 G13 G14 v1 v2 F1 H1 J1 F2 H2 J2).getD j (fun _ _ => True) x' q → Below q.heap.size q q' → (on17L x1 x2 x3 x4 X6 Y6 Z6 T6 G13 G14 v1 v2 F1 H1 J1 F2 H2 J2).getD j (fun _ _ => True) x' q' := by
  refine sta_all _ ?_
  simp only [on17L, List.mem_cons, forall_eq_or_imp, List.not_mem_nil, false_implies, implies_true, and_true]
  exact ⟨sta_eq _, sta_eq _, sta_eq _, sta_eq _, sta_eq _, sta_eq _, sta_eq _, sta_eq _, sta_eq _, sta_eq _, sta_eq _, sta_eq _, sta_eq _, sta_eq _, sta_eq _, sta_eq _, sta_eq _, sta_eq _⟩
def on19fL (X6 : Fe.E) (Y6 : Fe.E) (Z6 : Fe.E) (T6 : Fe.E) : List (Value → World → Prop) := [
  Eq1 (.agg (pcs X6 Y6 Z6 T6)),
  Eq1 (.bool false),
  Eq1 (.bool true),
  Eq1 (.bool true),
  Eq1 (undef),
  Eq1 (undef),
  Eq1 (undef),
  Eq1 (undef),
  Eq1 (undef),
  Eq1 (undef),
  Eq1 (undef),
  Eq1 (undef),
  Eq1 (undef),
  Eq1 (undef),
  Eq1 (undef),
  Eq1 (undef),
  Eq1 (undef),
  Eq1 (undef),
  Eq1 (undef),
  Eq1 (undef),
  Eq1 (.bool true),
  Eq1 (.bool true)]
theorem on19fS (X6 : Fe.E) (Y6 : Fe.E) (Z6 : Fe.E) (T6 : Fe.E) : ∀ j x' q q', (on19fL X6 Y6 Z6 T6).getD j (fun _ _ => True) x' q → Below q.heap.size q q' → (on19fL X6 Y6 Z6 T6).getD j (fun _ _ => True) x' q' := by
  refine sta_all _ ?_
  simp only [on19fL, List.mem_cons, forall_eq_or_imp, List.not_mem_nil, false_implies, implies_true, and_true]
  exact ⟨sta_eq _, sta_eq _, sta_eq _, sta_eq _, sta_eq _, sta_eq _, sta_eq _, sta_eq _, sta_eq _, sta_eq _, sta_eq _, sta_eq _, sta_eq _, sta_eq _, sta_eq _, sta_eq _, sta_eq _, sta_eq _, sta_eq _, sta_eq _, sta_eq _, sta_eq _⟩
def on19tL (m : Nat) (c : Nat) (v3 : Bool) (px : Fin Fe.P) (py : Fin Fe.P) (sx : Fin Fe.P) (sy : Fin Fe.P) (qb : Option Addr) : List (Value → World → Prop) := [
  PqP sx sy,
  Eq1 (.bool true),
  Eq1 (.bool false),
  Eq1 (.bool false),
  PqP sx sy,
  PqP sx sy,
  Eq1 (.bool true),
  Eq1 (.bool true),
  PqP sx sy,
  Eq1 (.slice qb m c),
  PqP px py,
  Eq1 (.bool v3),
  PqP sx sy,
  RqP sx sy,
  Eq1 (.slice qb m c),
  PqP px py,
  RqP px py,
  Eq1 (.bool v3),
  Eq1 (.bool true),
  Eq1 (.bool true),
  Eq1 (.bool true),
  Eq1 (.bool true)]
theorem on19tS (m : Nat) (c : Nat) (v3 : Bool) (px : Fin Fe.P) (py : Fin Fe.P) (sx : Fin Fe.P) (sy : Fin Fe.P) (qb : Option Addr) : ∀ j x' q q', (on19tL m c v3 px py sx sy qb).getD j (fun _ _ => True) x' q → Below q.heap.size q q' → (on19tL m c v3 px py sx sy qb).getD j (fun _ _ => True) x' q' := by
  refine sta_all _ ?_
  simp only [on19tL, List.mem_cons, forall_eq_or_imp, List.not_mem_nil, false_implies, implies_true, and_true]
  exact ⟨sta_pq _ _, sta_eq _, sta_eq _, sta_eq _, sta_pq _ _, sta_pq _ _, sta_eq _, sta_eq _, sta_pq _ _, sta_eq _, sta_pq _ _, sta_eq _, sta_pq _ _, sta_rq _ _, sta_eq _, sta_pq _ _, sta_rq _ _, sta_eq _, sta_eq _, sta_eq _, sta_eq _, sta_eq _⟩
set_option maxRecDepth 20000 in
set_option maxHeartbeats 8000000 in
theorem on4law_c (p1 : Option Addr) (n1 c1 : Nat) (u1 : Nat → Int) (hu1 : ∀ j, 0 ≤ u1 j ∧ u1 j < 18446744073709551616) (p2 : Option Addr) (n2 c2 : Nat) (u2 : Nat → Int) (hu2 : ∀ j, 0 ≤ u2 j ∧ u2 j < 18446744073709551616) (p3 : Option Addr) (n3 c3 : Nat) (u3 : Nat → Int) (hu3 : ∀ j, 0 ≤ u3 j ∧ u3 j < 18446744073709551616) (p4 : Option Addr) (n4 c4 : Nat) (u4 : Nat → Int) (hu4 : ∀ j, 0 ≤ u4 j ∧ u4 j < 18446744073709551616) (qb : Option Addr) (m c : Nat) (b : Nat → Int) (hr : ∀ j, 0 ≤ b j ∧ b j < 256) (hm : m ≤ 100) (wh : Int) (w : World) (hU1 : UAt w p1 n1 u1) (hU2 : UAt w p2 n2 u2) (hU3 : UAt w p3 n3 u3) (hU4 : UAt w p4 n4 u4) (hB : BAt w qb m b) (hCv : CvP w) : Calls Tryd.prog 4 #[.slice p1 n1 c1, .slice p2 n2 c2, .slice p3 n3 c3, .slice p4 n4 c4, .slice qb m c, .int .i64 wh] w fun e w' => e = .returned (.bool true) ∧ Below w.heap.size w w' := by
  have hi : (m : Int) ≤ 100 := by omega
  have hL1 := Lib.hid (fun w1 (hb : Below w.heap.size w w1) => limbs_c p1 n1 c1 u1 hu1 w1 (hU1.below hb))
  have hL2 := Lib.hid (fun w1 (hb : Below w.heap.size w w1) => limbs_c p2 n2 c2 u2 hu2 w1 (hU2.below hb))
  have hL3 := Lib.hid (fun w1 (hb : Below w.heap.size w w1) => limbs_c p3 n3 c3 u3 hu3 w1 (hU3.below hb))
  have hL4 := Lib.hid (fun w1 (hb : Below w.heap.size w w1) => limbs_c p4 n4 c4 u4 hu4 w1 (hU4.below hb))
  have hPt := Lib.hid (fun w1 (hb : Below w.heap.size w w1) => point_c qb m c b hr hm w1 (hB.below hb) (hCv.below hb hCv.lt))
  have hPk := Lib.hid (pick5_c wh)
  replace hCv := Lib.hid hCv
  obtain ⟨px, hpx⟩ : ∃ v, ptX m b = v := ⟨_, rfl⟩
  obtain ⟨py, hpy⟩ : ∃ v, ptY m b = v := ⟨_, rfl⟩
  rw [hpx, hpy] at hPt
  clear hpx hpy hm hr hB hU1 hU2 hU3 hU4 hu1 hu2 hu3 hu4
  go_enter Tryd.func4, Tryd.ntmps4
  go_wp2_with fail
  refine (awake4_c w hCv.out).mono ?_
  rintro e w1 ⟨rfl, hb0⟩
  go_wp2_with fail
  refine (hL1.out w1 hb0).mono ?_
  rintro e v1 ⟨x1, rfl, hx1, hb⟩
  replace hb0 := hb0.trans (hb.mono hb0.size)
  replace hx1 := Lib.hid hx1
  clear hb hL1
  go_wp2_with fail
  refine (hL2.out v1 hb0).mono ?_
  rintro e v2 ⟨x2, rfl, hx2, hb⟩
  replace hb0 := hb0.trans (hb.mono hb0.size)
  replace hx2 := Lib.hid hx2
  clear hb hL2
  go_wp2_with fail
  refine (hL3.out v2 hb0).mono ?_
  rintro e v3 ⟨x3, rfl, hx3, hb⟩
  replace hb0 := hb0.trans (hb.mono hb0.size)
  replace hx3 := Lib.hid hx3
  clear hb
  go_wp2_with fail
  refine (hL4.out v3 hb0).mono ?_
  rintro e v4 ⟨x4, rfl, hx4, hb⟩
  replace hb0 := hb0.trans (hb.mono hb0.size)
  replace hx4 := Lib.hid hx4
  clear hb hL4
  have LO := hb0.size
  go_wp2_with (first | (refine bdPt rfl rfl (X := x1) (Y := x2) (Z := x3) (T := x4) rfl rfl rfl rfl ?_) | (refine stPt rfl rfl rfl rfl (Blk.new _ _ _) rfl rfl (by kernel_rfl) ?_; intro w2 k13 hgr hsz; replace hb0 := (hb0.alloc hb0.size _).grown hgr (Nat.le_trans hb0.size (by simp)) (fun k hk => by injection hk with hk; omega); clear hgr hsz))
  replace k13 : Blk w2 v4.heap.size 29 (pcs x1 x2 x3 x4) := k13
  obtain ⟨G13, hG13⟩ : ∃ G, G = v4.heap.size := ⟨_, rfl⟩
  rw [← hG13] at k13 ⊢
  clear hG13 LO
  refine (hPt.out w2 hb0).mono ?_
  rintro e w3 ⟨X, Y, Z, T, rfl, hE, hb⟩
  replace k13 := k13.below hb
  replace hb0 := hb0.trans (hb.mono hb0.size)
  replace hE := Lib.hid hE
  clear hb
  have LO := hb0.size
  have l13 := k13.lt
  go_wp2_with (refine stPt rfl rfl rfl rfl (Blk.new _ _ _) rfl rfl (by kernel_rfl) ?_; intro w4 k14 hgr hsz; replace k13 := (k13.alloc _).grown hgr (fun h => by injection h with h; omega); replace hb0 := (hb0.alloc hb0.size _).grown hgr (Nat.le_trans hb0.size (by simp)) (fun k hk => by injection hk with hk; omega); clear hgr hsz)
  have n1314 := Lib.hid (show G13 ≠ w3.heap.size by omega)
  obtain ⟨G14, hG14⟩ : ∃ G, G = w3.heap.size := ⟨_, rfl⟩
  rw [← hG14] at k14 LO n1314 ⊢
  have lo14 := LO
  clear hG14 LO l13
  refine (hL3.out w4 hb0).mono ?_
  rintro e w5 ⟨by5, rfl, hy5, hb⟩
  replace k13 := k13.below hb
  replace k14 := k14.below hb
  replace hb0 := hb0.trans (hb.mono hb0.size)
  replace hy5 := Lib.hid hy5
  clear hb hL3
  have LO := hb0.size
  have l13 := k13.lt
  have l14 := k14.lt
  go_wp2_with (refine stE (e := by5) (old := ⟨0, 0, 0, 0, 0⟩) rfl rfl rfl rfl (Blk.new _ _ _) ?_; intro w6 k15 hgr hsz; replace k13 := (k13.alloc _).grown hgr (fun h => by injection h with h; omega); replace k14 := (k14.alloc _).grown hgr (fun h => by injection h with h; omega); replace hb0 := (hb0.alloc hb0.size _).grown hgr (Nat.le_trans hb0.size (by simp)) (fun k hk => by injection hk with hk; omega); clear hgr hsz)
  have n1415 := Lib.hid (show w5.heap.size ≠ G14 by omega)
  obtain ⟨G15, hG15⟩ : ∃ G, G = w5.heap.size := ⟨_, rfl⟩
  rw [← hG15] at k15 n1415 ⊢
  clear hG15 LO l13 l14
  refine (hPk.out w6).mono ?_
  rintro e w7 ⟨k, rfl, hk0, hk1, rfl⟩
  clear hPk
  go_upto_block 0 with fail
  go_cut [14] from 16 (fun p wx => p = .pointer (some ⟨G14, 0, none⟩) ∧ Blk wx G13 29 (pcs x1 x2 x3 x4) ∧ (∃ X Y Z T, Blk wx G14 29 (pcs X Y Z T) ∧ Fe.R X ∧ Fe.R Y ∧ Fe.R Z ∧ Fe.R T) ∧ Below w.heap.size w wx)
  case first =>
    have hRE := hE.out
    obtain ⟨na, nb, nc, nd, hX, hY, hZ, hT, _⟩ := hRE
    replace hX := Lib.hid hX
    replace hY := Lib.hid hY
    replace hZ := Lib.hid hZ
    replace hT := Lib.hid hT
    have hBy : Hid (El by5 (Fe.nv by5)) := Lib.hid ⟨hy5.out, rfl⟩
    clear hE hPt
    rcases (show k = 0 ∨ k = 1 ∨ k = 2 ∨ k = 3 ∨ k = 4 by omega) with rfl | rfl | rfl | rfl | rfl
    · skip
      go_wp2_with (first | (refine ldEx (by kernel_rfl) rfl rfl k14 ?_) | (refine ldEy (by kernel_rfl) rfl rfl k14 ?_) | (refine ldEz (by kernel_rfl) rfl rfl k14 ?_) | (refine ldEt (by kernel_rfl) rfl rfl k14 ?_) | (refine ldE rfl rfl rfl k15 ?_))
      refine (fAdd hX.out hBy.out _).mono ?_
      rintro e w8 ⟨xn, rfl, hxn, hb⟩
      replace k13 := k13.below hb
      replace k14 := k14.below hb
      replace hb0 := hb0.trans (hb.mono hb0.size)
      clear hb k15
      replace hxn := Lib.hid hxn
      go_wp2_with (refine stEx (e := xn) rfl rfl rfl rfl k14 ?_; intro w9 m14 hgr hsz; replace k13 := k13.grown hgr (fun h => n1314.out (by injection h)); replace hb0 := hb0.grown hgr hb0.size (fun k hk => by injection hk with hk; omega); clear hgr hsz k14)
      go_meet
      case rel => exact ⟨rfl, k13, ⟨_, _, _, _, m14, hxn.out.1, hY.out.1, hZ.out.1, hT.out.1⟩, hb0⟩
    · skip
      go_wp2_with (first | (refine ldEx (by kernel_rfl) rfl rfl k14 ?_) | (refine ldEy (by kernel_rfl) rfl rfl k14 ?_) | (refine ldEz (by kernel_rfl) rfl rfl k14 ?_) | (refine ldEt (by kernel_rfl) rfl rfl k14 ?_) | (refine ldE rfl rfl rfl k15 ?_))
      refine (fAdd hT.out hBy.out _).mono ?_
      rintro e w8 ⟨xn, rfl, hxn, hb⟩
      replace k13 := k13.below hb
      replace k14 := k14.below hb
      replace hb0 := hb0.trans (hb.mono hb0.size)
      clear hb k15
      replace hxn := Lib.hid hxn
      go_wp2_with (refine stEt (e := xn) rfl rfl rfl rfl k14 ?_; intro w9 m14 hgr hsz; replace k13 := k13.grown hgr (fun h => n1314.out (by injection h)); replace hb0 := hb0.grown hgr hb0.size (fun k hk => by injection hk with hk; omega); clear hgr hsz k14)
      go_meet
      case rel => exact ⟨rfl, k13, ⟨_, _, _, _, m14, hX.out.1, hY.out.1, hZ.out.1, hxn.out.1⟩, hb0⟩
    · skip
      go_wp2_with (first | (refine stEz (e := by5) rfl rfl rfl rfl k14 ?_; intro w9 m14 hgr hsz; replace k13 := k13.grown hgr (fun h => n1314.out (by injection h)); replace hb0 := hb0.grown hgr hb0.size (fun k hk => by injection hk with hk; omega); clear hgr hsz k14) | (refine ldE rfl rfl rfl k15 ?_))
      go_meet
      case rel => exact ⟨rfl, k13, ⟨_, _, _, _, m14, hX.out.1, hY.out.1, hBy.out.1, hT.out.1⟩, hb0⟩
    · skip
      go_wp2
      refine wp_region_grow2 17 (fun k => (Nat.ble 56 k && Nat.ble k 72)) _ [] (fun j x' q => (on16L X Y Z T by5 na nb nc nd G14).getD j (fun _ _ => True) x' q) (fun _ => false) (fun f => #[_, _, _, _, _, _, _, _, _, _, _, _, _, _, .pointer (some ⟨G14, 0, none⟩), .pointer (some ⟨G15, 0, none⟩), _, _, _, _, _, _, _, _, _, _, _, _, _, _, _, _, _, _, _, _, _, _, _, _, _, _, _, _, _, _, _, _, _, _, _, _, _, _, _, _, f 56, f 57, f 58, f 59, f 60, f 61, f 62, f 63, f 64, f 65, f 66, f 67, f 68, f 69, f 70, f 71, f 72, _, _, _, _, _, _, _, _, _, _, _, _, _, _, _, _, _, _, _, _, _, _, _, _, _, _, _, _, _, _, _, _, _, _, _, _, _, _, _]) (fun f => rfl) (by kernel_rfl) (by kernel_rfl) (by kernel_rfl) (by kernel_rfl) (by kernel_rfl) (on16S _ _ _ _ _ _ _ _ _ _) (fun _ _ _ h => by cases h) ?_ ?_
      · refine steps2_cons ?_ ?_
        · as_aux_lemma =>
          intro f w1 hb hd Q hK
          clear hd
          have hK := Lib.hid hK
          go_wp2
          exact hK.out _ _ rfl (Below.refl _ _) (fun h => by cases h)
        refine steps2_cons ?_ ?_
        · as_aux_lemma =>
          intro f w1 hb hd Q hK
          have e56 : f 56 = .pointer (some ⟨G14, 0, none⟩) := hd.1 rfl
          clear hd
          simp only [e56] at hK
          have hK := Lib.hid hK
          refine ldEx (by simp only [e56]; kernel_rfl) rfl e56 (k14.below hb) ?_
          refine wpList_nil ?_
          simp only [e56]
          exact hK.out _ _ rfl (Below.refl _ _) (fun h => by cases h)
        refine steps2_cons ?_ ?_
        · as_aux_lemma =>
          intro f w1 hb hd Q hK
          clear hd
          have hK := Lib.hid hK
          refine ldEp 0 by5 (by kernel_rfl) rfl rfl (k15.below hb) (fun j _ => by rw [Nat.zero_add]) ?_
          refine wpList_nil ?_
          exact hK.out _ _ rfl (Below.refl _ _) (fun h => by cases h)
        refine steps2_cons ?_ ?_
        · as_aux_lemma =>
          intro f w1 hb hd Q hK
          have e57 : f 57 = .agg #[.int .u64 X.a0, .int .u64 X.a1, .int .u64 X.a2, .int .u64 X.a3, .int .u64 X.a4] := hd.1 rfl
          have e58 : f 58 = .agg #[.int .u64 by5.a0, .int .u64 by5.a1, .int .u64 by5.a2, .int .u64 by5.a3, .int .u64 by5.a4] := hd.2.1 rfl
          clear hd
          simp only [e57, e58] at hK
          have hK := Lib.hid hK
          go_wp2_with fail
          refine (fMul hX.out hBy.out _).mono ?_
          rintro e w2 ⟨x, rfl, hx, hb2⟩
          go_wp2
          exact hK.out _ _ ⟨x, rfl, hx⟩ hb2 (fun h => by cases h)
        refine steps2_cons ?_ ?_
        · as_aux_lemma =>
          intro f w1 hb hd Q hK
          clear hd
          have hK := Lib.hid hK
          go_wp2
          exact hK.out _ _ rfl (Below.refl _ _) (fun h => by cases h)
        refine steps2_cons ?_ ?_
        · as_aux_lemma =>
          intro f w1 hb hd Q hK
          have e60 : f 60 = .pointer (some ⟨G14, 5, none⟩) := hd.1 rfl
          clear hd
          simp only [e60] at hK
          have hK := Lib.hid hK
          refine ldEy (by simp only [e60]; kernel_rfl) rfl e60 (k14.below hb) ?_
          refine wpList_nil ?_
          simp only [e60]
          exact hK.out _ _ rfl (Below.refl _ _) (fun h => by cases h)
        refine steps2_cons ?_ ?_
        · as_aux_lemma =>
          intro f w1 hb hd Q hK
          clear hd
          have hK := Lib.hid hK
          refine ldEp 0 by5 (by kernel_rfl) rfl rfl (k15.below hb) (fun j _ => by rw [Nat.zero_add]) ?_
          refine wpList_nil ?_
          exact hK.out _ _ rfl (Below.refl _ _) (fun h => by cases h)
        refine steps2_cons ?_ ?_
        · as_aux_lemma =>
          intro f w1 hb hd Q hK
          have e61 : f 61 = .agg #[.int .u64 Y.a0, .int .u64 Y.a1, .int .u64 Y.a2, .int .u64 Y.a3, .int .u64 Y.a4] := hd.1 rfl
          have e62 : f 62 = .agg #[.int .u64 by5.a0, .int .u64 by5.a1, .int .u64 by5.a2, .int .u64 by5.a3, .int .u64 by5.a4] := hd.2.1 rfl
          clear hd
          simp only [e61, e62] at hK
          have hK := Lib.hid hK
          go_wp2_with fail
          refine (fMul hY.out hBy.out _).mono ?_
          rintro e w2 ⟨x, rfl, hx, hb2⟩
          go_wp2
          exact hK.out _ _ ⟨x, rfl, hx⟩ hb2 (fun h => by cases h)
        refine steps2_cons ?_ ?_
        · as_aux_lemma =>
          intro f w1 hb hd Q hK
          clear hd
          have hK := Lib.hid hK
          go_wp2
          exact hK.out _ _ rfl (Below.refl _ _) (fun h => by cases h)
        refine steps2_cons ?_ ?_
        · as_aux_lemma =>
          intro f w1 hb hd Q hK
          have e64 : f 64 = .pointer (some ⟨G14, 10, none⟩) := hd.1 rfl
          clear hd
          simp only [e64] at hK
          have hK := Lib.hid hK
          refine ldEz (by simp only [e64]; kernel_rfl) rfl e64 (k14.below hb) ?_
          refine wpList_nil ?_
          simp only [e64]
          exact hK.out _ _ rfl (Below.refl _ _) (fun h => by cases h)
        refine steps2_cons ?_ ?_
        · as_aux_lemma =>
          intro f w1 hb hd Q hK
          clear hd
          have hK := Lib.hid hK
          refine ldEp 0 by5 (by kernel_rfl) rfl rfl (k15.below hb) (fun j _ => by rw [Nat.zero_add]) ?_
          refine wpList_nil ?_
          exact hK.out _ _ rfl (Below.refl _ _) (fun h => by cases h)
        refine steps2_cons ?_ ?_
        · as_aux_lemma =>
          intro f w1 hb hd Q hK
          have e65 : f 65 = .agg #[.int .u64 Z.a0, .int .u64 Z.a1, .int .u64 Z.a2, .int .u64 Z.a3, .int .u64 Z.a4] := hd.1 rfl
          have e66 : f 66 = .agg #[.int .u64 by5.a0, .int .u64 by5.a1, .int .u64 by5.a2, .int .u64 by5.a3, .int .u64 by5.a4] := hd.2.1 rfl
          clear hd
          simp only [e65, e66] at hK
          have hK := Lib.hid hK
          go_wp2_with fail
          refine (fMul hZ.out hBy.out _).mono ?_
          rintro e w2 ⟨x, rfl, hx, hb2⟩
          go_wp2
          exact hK.out _ _ ⟨x, rfl, hx⟩ hb2 (fun h => by cases h)
        refine steps2_cons ?_ ?_
        · as_aux_lemma =>
          intro f w1 hb hd Q hK
          clear hd
          have hK := Lib.hid hK
          go_wp2
          exact hK.out _ _ rfl (Below.refl _ _) (fun h => by cases h)
        refine steps2_cons ?_ ?_
        · as_aux_lemma =>
          intro f w1 hb hd Q hK
          have e68 : f 68 = .pointer (some ⟨G14, 15, none⟩) := hd.1 rfl
          clear hd
          simp only [e68] at hK
          have hK := Lib.hid hK
          refine ldEt (by simp only [e68]; kernel_rfl) rfl e68 (k14.below hb) ?_
          refine wpList_nil ?_
          simp only [e68]
          exact hK.out _ _ rfl (Below.refl _ _) (fun h => by cases h)
        refine steps2_cons ?_ ?_
        · as_aux_lemma =>
          intro f w1 hb hd Q hK
          clear hd
          have hK := Lib.hid hK
          refine ldEp 0 by5 (by kernel_rfl) rfl rfl (k15.below hb) (fun j _ => by rw [Nat.zero_add]) ?_
          refine wpList_nil ?_
          exact hK.out _ _ rfl (Below.refl _ _) (fun h => by cases h)
        refine steps2_cons ?_ ?_
        · as_aux_lemma =>
          intro f w1 hb hd Q hK
          have e69 : f 69 = .agg #[.int .u64 T.a0, .int .u64 T.a1, .int .u64 T.a2, .int .u64 T.a3, .int .u64 T.a4] := hd.1 rfl
          have e70 : f 70 = .agg #[.int .u64 by5.a0, .int .u64 by5.a1, .int .u64 by5.a2, .int .u64 by5.a3, .int .u64 by5.a4] := hd.2.1 rfl
          clear hd
          simp only [e69, e70] at hK
          have hK := Lib.hid hK
          go_wp2_with fail
          refine (fMul hT.out hBy.out _).mono ?_
          rintro e w2 ⟨x, rfl, hx, hb2⟩
          go_wp2
          exact hK.out _ _ ⟨x, rfl, hx⟩ hb2 (fun h => by cases h)
        refine steps2_cons ?_ ?_
        · as_aux_lemma =>
          intro f w1 hb hd Q hK
          obtain ⟨x59, e59, h59⟩ := (hd.1 rfl : ElP (na * (Fe.nv by5) % Fe.P) (f 59) w1)
          obtain ⟨x63, e63, h63⟩ := (hd.2.1 rfl : ElP (nb * (Fe.nv by5) % Fe.P) (f 63) w1)
          obtain ⟨x67, e67, h67⟩ := (hd.2.2.1 rfl : ElP (nc * (Fe.nv by5) % Fe.P) (f 67) w1)
          obtain ⟨x71, e71, h71⟩ := (hd.2.2.2.1 rfl : ElP (nd * (Fe.nv by5) % Fe.P) (f 71) w1)
          clear hd
          simp only [e59, e63, e67, e71] at hK
          have hK := Lib.hid hK
          refine bdPt rfl rfl e59 e63 e67 e71 ?_
          refine wpList_nil ?_
          simp only [e59, e63, e67, e71]
          exact hK.out _ _ ⟨x59, x63, x67, x71, rfl, h59, h63, h67, h71⟩ (Below.refl _ _) (fun h => by cases h)
        trivial
      intro f16 w8 hb hf hne
      obtain ⟨p72, q72, r72, s72, d72, hp72, hq72, hr72, hs72⟩ : PtP (na * (Fe.nv by5) % Fe.P) (nb * (Fe.nv by5) % Fe.P) (nc * (Fe.nv by5) % Fe.P) (nd * (Fe.nv by5) % Fe.P) (f16 72) w8 := hf 16 _ _ (by decide) rfl rfl
      clear hf hne
      simp only [d72]
      clear d72
      replace k13 := k13.below hb
      replace k14 := k14.below hb
      replace hb0 := hb0.trans (hb.mono hb0.size)
      clear hb k15
      refine stPt rfl rfl rfl rfl k14 rfl rfl (by kernel_rfl) ?_
      intro w9 m14 hgr hsz
      replace k13 := k13.grown hgr (fun h => n1314.out (by injection h))
      replace hb0 := hb0.grown hgr hb0.size (fun k hk => by injection hk with hk; omega)
      clear hgr hsz k14
      have hRs := Lib.hid (And.intro hp72.1 (And.intro hq72.1 (And.intro hr72.1 hs72.1)))
      clear hp72 hq72 hr72 hs72
      refine wpList_nil ?_
      go_wp2
      go_meet
      case rel => exact ⟨rfl, k13, ⟨p72, q72, r72, s72, m14, hRs.out.1, hRs.out.2.1, hRs.out.2.2.1, hRs.out.2.2.2⟩, hb0⟩
    · skip
      go_wp2
      go_meet
      case rel => exact ⟨rfl, k13, ⟨X, Y, Z, T, k14, hX.out.1, hY.out.1, hZ.out.1, hT.out.1⟩, hb0⟩
  case rest =>
    clear k13 k14 k15 hb0 hE lo14 n1415
    obtain ⟨e14, k13, ⟨X6, Y6, Z6, T6, k14, hR1, hR2, hR3, hR4⟩, hb0⟩ := hcut
    subst e14
    have h1 : El x1 (Fe.nv x1) := ⟨hx1.out, rfl⟩
    have h2 : El x2 (Fe.nv x2) := ⟨hx2.out, rfl⟩
    have h3 : El x3 (Fe.nv x3) := ⟨hx3.out, rfl⟩
    have h4 : El x4 (Fe.nv x4) := ⟨hx4.out, rfl⟩
    have g1 : El X6 (Fe.nv X6) := ⟨hR1, rfl⟩
    have g2 : El Y6 (Fe.nv Y6) := ⟨hR2, rfl⟩
    have g3 : El Z6 (Fe.nv Z6) := ⟨hR3, rfl⟩
    have g4 : El T6 (Fe.nv T6) := ⟨hR4, rfl⟩
    clear hR1 hR2 hR3 hR4
    obtain ⟨v1, hv1⟩ : ∃ v, onP (Fe.nv x1) (Fe.nv x2) (Fe.nv x3) (Fe.nv x4) = v := ⟨_, rfl⟩
    obtain ⟨v2, hv2⟩ : ∃ v, onP (Fe.nv X6) (Fe.nv Y6) (Fe.nv Z6) (Fe.nv T6) = v := ⟨_, rfl⟩
    have hOn1 := fun w hC => on_c h1 h2 h3 h4 w hC
    have hOn2 := fun w hC => on_c g1 g2 g3 g4 w hC
    have hOf1 := fun w => ofT_c (T := x4) h1 h2 h3 w
    have hOf2 := fun w => ofT_c (T := T6) g1 g2 g3 w
    have hRo1 := fun w => ron_c h1.lt h2.lt h3.lt h4 w
    have hRo2 := fun w => ron_c g1.lt g2.lt g3.lt g4 w
    rw [← Fe.ron_on h3.lt] at hRo1
    rw [← Fe.ron_on g3.lt] at hRo2
    rw [hv1] at hOn1 hRo1
    rw [hv2] at hOn2 hRo2
    have hQ : v2 = true → ∃ sx sy, PtE X6 Y6 Z6 T6 sx sy := fun e => by
      subst e
      obtain ⟨sx, sy, hPA⟩ := Fe.on_pa g1.lt g2.lt g3.lt g4.lt hv2
      exact ⟨sx, sy, _, _, _, _, g1, g2, g3, g4, hPA⟩
    clear h1 h2 h3 h4 g1 g2 g3 g4 hv1 hv2 hx1 hx2 hx3 hx4
    unfold tcs at hRo1 hRo2
    obtain ⟨F1, hF1⟩ : ∃ F, Dg.dg (Fe.nv x1) = F := ⟨_, rfl⟩
    obtain ⟨H1, hH1⟩ : ∃ F, Dg.dg (Fe.nv x2) = F := ⟨_, rfl⟩
    obtain ⟨J1, hJ1⟩ : ∃ F, Dg.dg (Fe.nv x3) = F := ⟨_, rfl⟩
    obtain ⟨F2, hF2⟩ : ∃ F, Dg.dg (Fe.nv X6) = F := ⟨_, rfl⟩
    obtain ⟨H2, hH2⟩ : ∃ F, Dg.dg (Fe.nv Y6) = F := ⟨_, rfl⟩
    obtain ⟨J2, hJ2⟩ : ∃ F, Dg.dg (Fe.nv Z6) = F := ⟨_, rfl⟩
    rw [hF1, hH1, hJ1] at hOf1 hRo1
    rw [hF2, hH2, hJ2] at hOf2 hRo2
    clear hF1 hH1 hJ1 hF2 hH2 hJ2
    replace hOn1 := Lib.hid hOn1
    replace hOn2 := Lib.hid hOn2
    replace hOf1 := Lib.hid hOf1
    replace hOf2 := Lib.hid hOf2
    replace hRo1 := Lib.hid hRo1
    replace hRo2 := Lib.hid hRo2
    replace hQ := Lib.hid hQ
    have hC9 := hCv.out.below hb0 hCv.out.lt
    go_wp2
    refine wp_region_grow2 18 (fun k => (Nat.ble 73 k && Nat.ble k 90)) _ [] (fun j x' q => (on17L x1 x2 x3 x4 X6 Y6 Z6 T6 G13 G14 v1 v2 F1 H1 J1 F2 H2 J2).getD j (fun _ _ => True) x' q) (fun _ => false) (fun f => #[_, _, _, _, _, _, _, _, _, _, _, _, _, .pointer (some ⟨G13, 0, none⟩), .pointer (some ⟨G14, 0, none⟩), _, _, _, _, _, _, _, _, _, _, _, _, _, _, _, _, _, _, _, _, _, _, _, _, _, _, _, _, _, _, _, _, _, _, _, _, _, _, _, _, _, _, _, _, _, _, _, _, _, _, _, _, _, _, _, _, _, _, f 73, f 74, f 75, f 76, f 77, f 78, f 79, f 80, f 81, f 82, f 83, f 84, f 85, f 86, f 87, f 88, f 89, f 90, _, _, _, _, _, _, _, _, _, _, _, _, _, _, _, _, _, _, _, _, _]) (fun f => rfl) (by kernel_rfl) (by kernel_rfl) (by kernel_rfl) (by kernel_rfl) (by kernel_rfl) (on17S _ _ _ _ _ _ _ _ _ _ _ _ _ _ _ _ _ _) (fun _ _ _ h => by cases h) ?_ ?_
    · refine steps2_cons ?_ ?_
      · as_aux_lemma =>
        intro f w1 hb hd Q hK
        clear hd
        have hK := Lib.hid hK
        refine ldPtG (by kernel_rfl) rfl rfl (k13.below hb) ?_
        refine wpList_nil ?_
        exact hK.out _ _ rfl (Below.refl _ _) (fun h => by cases h)
      refine steps2_cons ?_ ?_
      · as_aux_lemma =>
        intro f w1 hb hd Q hK
        have e73 : f 73 = .agg (pcs x1 x2 x3 x4) := hd.1 rfl
        clear hd
        simp only [e73] at hK
        have hK := Lib.hid hK
        go_wp2_with fail
        refine (hOn1.out w1 (hC9.below hb hC9.lt)).mono ?_
        rintro e w2 ⟨rfl, hb2⟩
        go_wp2
        exact hK.out _ _ rfl hb2 (fun h => by cases h)
      refine steps2_cons ?_ ?_
      · as_aux_lemma =>
        intro f w1 hb hd Q hK
        clear hd
        have hK := Lib.hid hK
        refine ldPtG (by kernel_rfl) rfl rfl (k13.below hb) ?_
        refine wpList_nil ?_
        exact hK.out _ _ rfl (Below.refl _ _) (fun h => by cases h)
      refine steps2_cons ?_ ?_
      · as_aux_lemma =>
        intro f w1 hb hd Q hK
        have e75 : f 75 = .agg (pcs x1 x2 x3 x4) := hd.1 rfl
        clear hd
        simp only [e75] at hK
        have hK := Lib.hid hK
        go_wp2_with fail
        refine (hOf1.out _).mono ?_
        rintro e w2 ⟨rfl, hb2⟩
        go_wp2
        exact hK.out _ _ rfl hb2 (fun h => by cases h)
      refine steps2_cons ?_ ?_
      · as_aux_lemma =>
        intro f w1 hb hd Q hK
        clear hd
        have hK := Lib.hid hK
        go_wp2
        exact hK.out _ _ rfl (Below.refl _ _) (fun h => by cases h)
      refine steps2_cons ?_ ?_
      · as_aux_lemma =>
        intro f w1 hb hd Q hK
        have e77 : f 77 = .pointer (some ⟨G13, 15, none⟩) := hd.1 rfl
        clear hd
        simp only [e77] at hK
        have hK := Lib.hid hK
        refine ldEt (by simp only [e77]; kernel_rfl) rfl e77 (k13.below hb) ?_
        refine wpList_nil ?_
        simp only [e77]
        exact hK.out _ _ rfl (Below.refl _ _) (fun h => by cases h)
      refine steps2_cons ?_ ?_
      · as_aux_lemma =>
        intro f w1 hb hd Q hK
        have e76 : f 76 = .agg (tcf F1 H1 J1) := hd.1 rfl
        have e78 : f 78 = .agg #[.int .u64 x4.a0, .int .u64 x4.a1, .int .u64 x4.a2, .int .u64 x4.a3, .int .u64 x4.a4] := hd.2.1 rfl
        clear hd
        simp only [e76, e78] at hK
        have hK := Lib.hid hK
        go_wp2_with fail
        refine (hRo1.out _).mono ?_
        rintro e w2 ⟨rfl, hb2⟩
        go_wp2
        exact hK.out _ _ rfl hb2 (fun h => by cases h)
      refine steps2_cons ?_ ?_
      · as_aux_lemma =>
        intro f w1 hb hd Q hK
        have e74 : f 74 = .bool v1 := hd.1 rfl
        have e79 : f 79 = .bool v1 := hd.2.1 rfl
        clear hd
        simp only [e74, e79] at hK
        have hK := Lib.hid hK
        have hq : ∀ w, (binOp .neq 4 (.bool v1) (.bool v1)).run Tryd.prog w = .ok (.bool false) w := fun w => by cases v1 <;> kernel_rfl
        go_wp2
        exact hK.out _ _ rfl (Below.refl _ _) (fun h => by cases h)
      refine steps2_cons ?_ ?_
      · as_aux_lemma =>
        intro f w1 hb hd Q hK
        have e80 : f 80 = .bool false := hd.1 rfl
        clear hd
        simp only [e80] at hK
        have hK := Lib.hid hK
        go_wp2
        exact hK.out _ _ rfl (Below.refl _ _) (fun h => by cases h)
      refine steps2_cons ?_ ?_
      · as_aux_lemma =>
        intro f w1 hb hd Q hK
        have e81 : f 81 = .bool false := hd.1 rfl
        clear hd
        simp only [e81] at hK
        have hK := Lib.hid hK
        refine ldPtG (by simp only [e81]; kernel_rfl) rfl rfl (k14.below hb) ?_
        refine wpList_nil ?_
        simp only [e81]
        exact hK.out _ _ rfl (Below.refl _ _) (fun h => by cases h)
      refine steps2_cons ?_ ?_
      · as_aux_lemma =>
        intro f w1 hb hd Q hK
        have e82 : f 82 = .agg (pcs X6 Y6 Z6 T6) := hd.1 rfl
        have e81 : f 81 = .bool false := hd.2.1 rfl
        clear hd
        simp only [e82, e81] at hK
        have hK := Lib.hid hK
        go_wp2_with fail
        refine (hOn2.out w1 (hC9.below hb hC9.lt)).mono ?_
        rintro e w2 ⟨rfl, hb2⟩
        go_wp2
        exact hK.out _ _ rfl hb2 (fun h => by cases h)
      refine steps2_cons ?_ ?_
      · as_aux_lemma =>
        intro f w1 hb hd Q hK
        have e81 : f 81 = .bool false := hd.1 rfl
        clear hd
        simp only [e81] at hK
        have hK := Lib.hid hK
        refine ldPtG (by simp only [e81]; kernel_rfl) rfl rfl (k14.below hb) ?_
        refine wpList_nil ?_
        simp only [e81]
        exact hK.out _ _ rfl (Below.refl _ _) (fun h => by cases h)
      refine steps2_cons ?_ ?_
      · as_aux_lemma =>
        intro f w1 hb hd Q hK
        have e84 : f 84 = .agg (pcs X6 Y6 Z6 T6) := hd.1 rfl
        have e81 : f 81 = .bool false := hd.2.2.1 rfl
        clear hd
        simp only [e84, e81] at hK
        have hK := Lib.hid hK
        go_wp2_with fail
        refine (hOf2.out _).mono ?_
        rintro e w2 ⟨rfl, hb2⟩
        go_wp2
        exact hK.out _ _ rfl hb2 (fun h => by cases h)
      refine steps2_cons ?_ ?_
      · as_aux_lemma =>
        intro f w1 hb hd Q hK
        have e81 : f 81 = .bool false := hd.1 rfl
        clear hd
        simp only [e81] at hK
        have hK := Lib.hid hK
        go_wp2
        exact hK.out _ _ rfl (Below.refl _ _) (fun h => by cases h)
      refine steps2_cons ?_ ?_
      · as_aux_lemma =>
        intro f w1 hb hd Q hK
        have e86 : f 86 = .pointer (some ⟨G14, 15, none⟩) := hd.1 rfl
        have e81 : f 81 = .bool false := hd.2.1 rfl
        clear hd
        simp only [e86, e81] at hK
        have hK := Lib.hid hK
        refine ldEt (by simp only [e86, e81]; kernel_rfl) rfl e86 (k14.below hb) ?_
        refine wpList_nil ?_
        simp only [e86, e81]
        exact hK.out _ _ rfl (Below.refl _ _) (fun h => by cases h)
      refine steps2_cons ?_ ?_
      · as_aux_lemma =>
        intro f w1 hb hd Q hK
        have e85 : f 85 = .agg (tcf F2 H2 J2) := hd.1 rfl
        have e87 : f 87 = .agg #[.int .u64 T6.a0, .int .u64 T6.a1, .int .u64 T6.a2, .int .u64 T6.a3, .int .u64 T6.a4] := hd.2.1 rfl
        have e81 : f 81 = .bool false := hd.2.2.2.1 rfl
        clear hd
        simp only [e85, e87, e81] at hK
        have hK := Lib.hid hK
        go_wp2_with fail
        refine (hRo2.out _).mono ?_
        rintro e w2 ⟨rfl, hb2⟩
        go_wp2
        exact hK.out _ _ rfl hb2 (fun h => by cases h)
      refine steps2_cons ?_ ?_
      · as_aux_lemma =>
        intro f w1 hb hd Q hK
        have e83 : f 83 = .bool v2 := hd.1 rfl
        have e88 : f 88 = .bool v2 := hd.2.1 rfl
        have e81 : f 81 = .bool false := hd.2.2.1 rfl
        clear hd
        simp only [e83, e88, e81] at hK
        have hK := Lib.hid hK
        have hq : ∀ w, (binOp .neq 4 (.bool v2) (.bool v2)).run Tryd.prog w = .ok (.bool false) w := fun w => by cases v2 <;> kernel_rfl
        go_wp2
        exact hK.out _ _ rfl (Below.refl _ _) (fun h => by cases h)
      refine steps2_cons ?_ ?_
      · as_aux_lemma =>
        intro f w1 hb hd Q hK
        have e81 : f 81 = .bool false := hd.1 rfl
        have e89 : f 89 = .bool false := hd.2.1 rfl
        clear hd
        simp only [e81, e89] at hK
        have hK := Lib.hid hK
        go_wp2
        exact hK.out _ _ rfl (Below.refl _ _) (fun h => by cases h)
      trivial
    intro f17 w10 hb hf hne
    refine wpList_nil ?_
    have d90 : f17 90 = .bool false := hf 17 _ _ (by decide) rfl rfl
    clear hf hne
    simp only [d90]
    clear d90
    replace k13 := k13.below hb
    replace k14 := k14.below hb
    replace hb0 := hb0.trans (hb.mono hb0.size)
    clear hb hC9
    have hC9 := hCv.out.below hb0 hCv.out.lt
    cases v2
    · skip
      go_wp2
      refine wp_region_grow2 22 (fun k => Nat.beq k 12 || (Nat.ble 91 k && Nat.ble k 111)) _ [] (fun j x' q => (on19fL X6 Y6 Z6 T6).getD j (fun _ _ => True) x' q) (fun _ => false) (fun f => #[_, _, _, _, .slice qb m c, _, _, _, _, _, _, _, f 12, _, .pointer (some ⟨G14, 0, none⟩), _, _, _, _, _, _, _, _, _, _, _, _, _, _, _, _, _, _, _, _, _, _, _, _, _, _, _, _, _, _, _, _, _, _, _, _, _, _, _, _, _, _, _, _, _, _, _, _, _, _, _, _, _, _, _, _, _, _, _, _, _, _, _, _, _, _, _, _, _, _, _, _, _, _, _, _, f 91, f 92, f 93, f 94, f 95, f 96, f 97, f 98, f 99, f 100, f 101, f 102, f 103, f 104, f 105, f 106, f 107, f 108, f 109, f 110, f 111]) (fun f => rfl) (by kernel_rfl) (by kernel_rfl) (by kernel_rfl) (by kernel_rfl) (by kernel_rfl) (on19fS _ _ _ _) (fun _ _ _ h => by cases h) ?_ ?_
      · refine steps2_cons ?_ ?_
        · as_aux_lemma =>
          intro f w1 hb hd Q hK
          clear hd
          have hK := Lib.hid hK
          refine ldPtG (by kernel_rfl) rfl rfl (k14.below hb) ?_
          refine wpList_nil ?_
          exact hK.out _ _ rfl (Below.refl _ _) (fun h => by cases h)
        refine steps2_cons ?_ ?_
        · as_aux_lemma =>
          intro f w1 hb hd Q hK
          have e91 : f 91 = .agg (pcs X6 Y6 Z6 T6) := hd.1 rfl
          clear hd
          simp only [e91] at hK
          have hK := Lib.hid hK
          go_wp2_with fail
          refine (hOn2.out w1 (hC9.below hb hC9.lt)).mono ?_
          rintro e w2 ⟨rfl, hb2⟩
          go_wp2
          exact hK.out _ _ rfl hb2 (fun h => by cases h)
        refine steps2_cons ?_ ?_
        · as_aux_lemma =>
          intro f w1 hb hd Q hK
          have e92 : f 92 = .bool false := hd.1 rfl
          clear hd
          simp only [e92] at hK
          have hK := Lib.hid hK
          go_wp2
          exact hK.out _ _ rfl (Below.refl _ _) (fun h => by cases h)
        refine steps2_cons ?_ ?_
        · as_aux_lemma =>
          intro f w1 hb hd Q hK
          have e93 : f 93 = .bool true := hd.1 rfl
          clear hd
          simp only [e93] at hK
          have hK := Lib.hid hK
          go_wp2
          exact hK.out _ _ rfl (Below.refl _ _) (fun h => by cases h)
        refine steps2_cons ?_ ?_
        · as_aux_lemma =>
          intro f w1 hb hd Q hK
          have e94 : f 94 = .bool true := hd.1 rfl
          clear hd
          simp only [e94] at hK
          have hK := Lib.hid hK
          go_wp2
          exact hK.out _ _ rfl (Below.refl _ _) (fun h => by cases h)
        refine steps2_cons ?_ ?_
        · as_aux_lemma =>
          intro f w1 hb hd Q hK
          have e94 : f 94 = .bool true := hd.1 rfl
          clear hd
          simp only [e94] at hK
          have hK := Lib.hid hK
          go_wp2
          exact hK.out _ _ rfl (Below.refl _ _) (fun h => by cases h)
        refine steps2_cons ?_ ?_
        · as_aux_lemma =>
          intro f w1 hb hd Q hK
          have e95 : f 95 = undef := hd.1 rfl
          have e96 : f 96 = undef := hd.2.1 rfl
          have e94 : f 94 = .bool true := hd.2.2.1 rfl
          clear hd
          simp only [e95, e96, e94] at hK
          have hK := Lib.hid hK
          go_wp2
          exact hK.out _ _ rfl (Below.refl _ _) (fun h => by cases h)
        refine steps2_cons ?_ ?_
        · as_aux_lemma =>
          intro f w1 hb hd Q hK
          have e97 : f 97 = undef := hd.1 rfl
          have e94 : f 94 = .bool true := hd.2.2.1 rfl
          clear hd
          simp only [e97, e94] at hK
          have hK := Lib.hid hK
          go_wp2
          exact hK.out _ _ rfl (Below.refl _ _) (fun h => by cases h)
        refine steps2_cons ?_ ?_
        · as_aux_lemma =>
          intro f w1 hb hd Q hK
          have e98 : f 98 = .tuple #[] := hd.1 rfl
          clear hd
          simp only [e98] at hK
          have hK := Lib.hid hK
          go_wp2
          exact hK.out _ _ rfl (Below.refl _ _) (fun h => by cases h)
        refine steps2_cons ?_ ?_
        · as_aux_lemma =>
          intro f w1 hb hd Q hK
          have e98 : f 98 = .tuple #[] := hd.1 rfl
          clear hd
          simp only [e98] at hK
          have hK := Lib.hid hK
          go_wp2
          exact hK.out _ _ rfl (Below.refl _ _) (fun h => by cases h)
        refine steps2_cons ?_ ?_
        · as_aux_lemma =>
          intro f w1 hb hd Q hK
          have e100 : f 100 = undef := hd.1 rfl
          have e98 : f 98 = .tuple #[] := hd.2.1 rfl
          clear hd
          simp only [e100, e98] at hK
          have hK := Lib.hid hK
          go_wp2
          exact hK.out _ _ rfl (Below.refl _ _) (fun h => by cases h)
        refine steps2_cons ?_ ?_
        · as_aux_lemma =>
          intro f w1 hb hd Q hK
          have e99 : f 99 = undef := hd.1 rfl
          have e101 : f 101 = undef := hd.2.1 rfl
          have e98 : f 98 = .tuple #[] := hd.2.2.2.1 rfl
          clear hd
          simp only [e99, e101, e98] at hK
          have hK := Lib.hid hK
          go_wp2
          exact hK.out _ _ rfl (Below.refl _ _) (fun h => by cases h)
        refine steps2_cons ?_ ?_
        · as_aux_lemma =>
          intro f w1 hb hd Q hK
          have e98 : f 98 = .tuple #[] := hd.1 rfl
          clear hd
          simp only [e98] at hK
          have hK := Lib.hid hK
          go_wp2
          exact hK.out _ _ rfl (Below.refl _ _) (fun h => by cases h)
        refine steps2_cons ?_ ?_
        · as_aux_lemma =>
          intro f w1 hb hd Q hK
          have e103 : f 103 = undef := hd.1 rfl
          have e98 : f 98 = .tuple #[] := hd.2.2.1 rfl
          clear hd
          simp only [e103, e98] at hK
          have hK := Lib.hid hK
          go_wp2
          exact hK.out _ _ rfl (Below.refl _ _) (fun h => by cases h)
        refine steps2_cons ?_ ?_
        · as_aux_lemma =>
          intro f w1 hb hd Q hK
          have e98 : f 98 = .tuple #[] := hd.1 rfl
          clear hd
          simp only [e98] at hK
          have hK := Lib.hid hK
          go_wp2
          exact hK.out _ _ rfl (Below.refl _ _) (fun h => by cases h)
        refine steps2_cons ?_ ?_
        · as_aux_lemma =>
          intro f w1 hb hd Q hK
          have e105 : f 105 = undef := hd.1 rfl
          have e98 : f 98 = .tuple #[] := hd.2.2.1 rfl
          clear hd
          simp only [e105, e98] at hK
          have hK := Lib.hid hK
          go_wp2
          exact hK.out _ _ rfl (Below.refl _ _) (fun h => by cases h)
        refine steps2_cons ?_ ?_
        · as_aux_lemma =>
          intro f w1 hb hd Q hK
          have e106 : f 106 = undef := hd.1 rfl
          have e98 : f 98 = .tuple #[] := hd.2.2.1 rfl
          clear hd
          simp only [e106, e98] at hK
          have hK := Lib.hid hK
          go_wp2
          exact hK.out _ _ rfl (Below.refl _ _) (fun h => by cases h)
        refine steps2_cons ?_ ?_
        · as_aux_lemma =>
          intro f w1 hb hd Q hK
          have e104 : f 104 = undef := hd.1 rfl
          have e107 : f 107 = undef := hd.2.1 rfl
          have e98 : f 98 = .tuple #[] := hd.2.2.2.1 rfl
          clear hd
          simp only [e104, e107, e98] at hK
          have hK := Lib.hid hK
          go_wp2
          exact hK.out _ _ rfl (Below.refl _ _) (fun h => by cases h)
        refine steps2_cons ?_ ?_
        · as_aux_lemma =>
          intro f w1 hb hd Q hK
          have e102 : f 102 = undef := hd.1 rfl
          have e108 : f 108 = undef := hd.2.1 rfl
          have e98 : f 98 = .tuple #[] := hd.2.2.1 rfl
          clear hd
          simp only [e102, e108, e98] at hK
          have hK := Lib.hid hK
          go_wp2
          exact hK.out _ _ rfl (Below.refl _ _) (fun h => by cases h)
        refine steps2_cons ?_ ?_
        · as_aux_lemma =>
          intro f w1 hb hd Q hK
          have e98 : f 98 = undef := hd.1 rfl
          have e109 : f 109 = undef := hd.2.1 rfl
          have e94 : f 94 = .bool true := hd.2.2.1 rfl
          clear hd
          simp only [e98, e109, e94] at hK
          have hK := Lib.hid hK
          go_wp2
          exact hK.out _ _ rfl (Below.refl _ _) (fun h => by cases h)
        refine steps2_cons ?_ ?_
        · as_aux_lemma =>
          intro f w1 hb hd Q hK
          have e94 : f 94 = .bool true := hd.1 rfl
          have e110 : f 110 = undef := hd.2.1 rfl
          clear hd
          simp only [e94, e110] at hK
          have hK := Lib.hid hK
          go_wp2
          exact hK.out _ _ rfl (Below.refl _ _) (fun h => by cases h)
        refine steps2_cons ?_ ?_
        · as_aux_lemma =>
          intro f w1 hb hd Q hK
          have e111 : f 111 = .bool true := hd.1 rfl
          clear hd
          simp only [e111] at hK
          have hK := Lib.hid hK
          go_wp2
          exact hK.out _ _ rfl (Below.refl _ _) (fun h => by cases h)
        trivial
      intro f19 w11 hb hf hne
      refine wpList_nil ?_
      have d12 : f19 12 = .bool true := hf 21 _ _ (by decide) rfl rfl
      clear hf hne
      simp only [d12]
      have hP := Lib.hid (hb0.trans (hb.mono hb0.size))
      clear d12 hC9 hb hb0 k13 k14
      go_wp2
      go_returns
      exact ⟨rfl, hP.out⟩
    · skip
      obtain ⟨sx, sy, hE6⟩ := hQ.out rfl
      replace hE6 := Lib.hid hE6
      obtain ⟨v3, hv3⟩ : ∃ v, (decide (sx = px) && decide (sy = py)) = v := ⟨_, rfl⟩
      replace hv3 := Lib.hid hv3
      clear hQ
      go_wp2
      refine wp_region_grow2 22 (fun k => Nat.beq k 12 || (Nat.ble 91 k && Nat.ble k 111)) _ [] (fun j x' q => (on19tL m c v3 px py sx sy qb).getD j (fun _ _ => True) x' q) (fun _ => false) (fun f => #[_, _, _, _, .slice qb m c, _, _, _, _, _, _, _, f 12, _, .pointer (some ⟨G14, 0, none⟩), _, _, _, _, _, _, _, _, _, _, _, _, _, _, _, _, _, _, _, _, _, _, _, _, _, _, _, _, _, _, _, _, _, _, _, _, _, _, _, _, _, _, _, _, _, _, _, _, _, _, _, _, _, _, _, _, _, _, _, _, _, _, _, _, _, _, _, _, _, _, _, _, _, _, _, _, f 91, f 92, f 93, f 94, f 95, f 96, f 97, f 98, f 99, f 100, f 101, f 102, f 103, f 104, f 105, f 106, f 107, f 108, f 109, f 110, f 111]) (fun f => rfl) (by kernel_rfl) (by kernel_rfl) (by kernel_rfl) (by kernel_rfl) (by kernel_rfl) (on19tS _ _ _ _ _ _ _ _) (fun _ _ _ h => by cases h) ?_ ?_
      · refine steps2_cons ?_ ?_
        · as_aux_lemma =>
          intro f w1 hb hd Q hK
          clear hd
          have hK := Lib.hid hK
          refine ldPtG (by kernel_rfl) rfl rfl (k14.below hb) ?_
          refine wpList_nil ?_
          exact hK.out _ _ ⟨_, _, _, _, rfl, hE6.out⟩ (Below.refl _ _) (fun h => by cases h)
        refine steps2_cons ?_ ?_
        · as_aux_lemma =>
          intro f w1 hb hd Q hK
          obtain ⟨X91, Y91, Z91, T91, e91, h91⟩ := (hd.1 rfl : PqP sx sy (f 91) w1)
          clear hd
          simp only [e91] at hK
          have hK := Lib.hid hK
          go_wp2_with fail
          refine (pson_c _ h91 (hC9.below hb hC9.lt)).mono ?_
          rintro e w2 ⟨rfl, hb2⟩
          go_wp2
          exact hK.out _ _ rfl hb2 (fun h => by cases h)
        refine steps2_cons ?_ ?_
        · as_aux_lemma =>
          intro f w1 hb hd Q hK
          have e92 : f 92 = .bool true := hd.1 rfl
          clear hd
          simp only [e92] at hK
          have hK := Lib.hid hK
          go_wp2
          exact hK.out _ _ rfl (Below.refl _ _) (fun h => by cases h)
        refine steps2_cons ?_ ?_
        · as_aux_lemma =>
          intro f w1 hb hd Q hK
          have e93 : f 93 = .bool false := hd.1 rfl
          clear hd
          simp only [e93] at hK
          have hK := Lib.hid hK
          go_wp2
          exact hK.out _ _ rfl (Below.refl _ _) (fun h => by cases h)
        refine steps2_cons ?_ ?_
        · as_aux_lemma =>
          intro f w1 hb hd Q hK
          have e94 : f 94 = .bool false := hd.1 rfl
          clear hd
          simp only [e94] at hK
          have hK := Lib.hid hK
          refine ldPtG (by simp only [e94]; kernel_rfl) rfl rfl (k14.below hb) ?_
          refine wpList_nil ?_
          simp only [e94]
          exact hK.out _ _ ⟨_, _, _, _, rfl, hE6.out⟩ (Below.refl _ _) (fun h => by cases h)
        refine steps2_cons ?_ ?_
        · as_aux_lemma =>
          intro f w1 hb hd Q hK
          have e94 : f 94 = .bool false := hd.1 rfl
          clear hd
          simp only [e94] at hK
          have hK := Lib.hid hK
          refine ldPtG (by simp only [e94]; kernel_rfl) rfl rfl (k14.below hb) ?_
          refine wpList_nil ?_
          simp only [e94]
          exact hK.out _ _ ⟨_, _, _, _, rfl, hE6.out⟩ (Below.refl _ _) (fun h => by cases h)
        refine steps2_cons ?_ ?_
        · as_aux_lemma =>
          intro f w1 hb hd Q hK
          obtain ⟨X95, Y95, Z95, T95, e95, h95⟩ := (hd.1 rfl : PqP sx sy (f 95) w1)
          obtain ⟨X96, Y96, Z96, T96, e96, h96⟩ := (hd.2.1 rfl : PqP sx sy (f 96) w1)
          have e94 : f 94 = .bool false := hd.2.2.1 rfl
          clear hd
          simp only [e95, e96, e94] at hK
          have hK := Lib.hid hK
          go_wp2_with fail
          refine (pssameV h95 h96 (same_reflO _ _) _).mono ?_
          rintro e w2 ⟨rfl, hb2⟩
          go_wp2
          exact hK.out _ _ rfl hb2 (fun h => by cases h)
        refine steps2_cons ?_ ?_
        · as_aux_lemma =>
          intro f w1 hb hd Q hK
          have e97 : f 97 = .bool true := hd.1 rfl
          have e94 : f 94 = .bool false := hd.2.2.1 rfl
          clear hd
          simp only [e97, e94] at hK
          have hK := Lib.hid hK
          go_wp2
          exact hK.out _ _ rfl (Below.refl _ _) (fun h => by cases h)
        refine steps2_cons ?_ ?_
        · as_aux_lemma =>
          intro f w1 hb hd Q hK
          have e98 : f 98 = .bool true := hd.1 rfl
          clear hd
          simp only [e98] at hK
          have hK := Lib.hid hK
          refine ldPtG (by simp only [e98]; kernel_rfl) rfl rfl (k14.below hb) ?_
          refine wpList_nil ?_
          simp only [e98]
          exact hK.out _ _ ⟨_, _, _, _, rfl, hE6.out⟩ (Below.refl _ _) (fun h => by cases h)
        refine steps2_cons ?_ ?_
        · as_aux_lemma =>
          intro f w1 hb hd Q hK
          have e98 : f 98 = .bool true := hd.1 rfl
          clear hd
          simp only [e98] at hK
          have hK := Lib.hid hK
          go_wp2
          exact hK.out _ _ rfl (Below.refl _ _) (fun h => by cases h)
        refine steps2_cons ?_ ?_
        · as_aux_lemma =>
          intro f w1 hb hd Q hK
          have e100 : f 100 = .slice qb m c := hd.1 rfl
          have e98 : f 98 = .bool true := hd.2.1 rfl
          clear hd
          simp only [e100, e98] at hK
          have hK := Lib.hid hK
          go_wp2_with fail
          refine (hPt.out w1 (hb0.trans (hb.mono hb0.size))).mono ?_
          rintro e w2 ⟨X, Y, Z, T, rfl, hx, hb2⟩
          go_wp2
          exact hK.out _ _ ⟨X, Y, Z, T, rfl, hx⟩ hb2 (fun h => by cases h)
        refine steps2_cons ?_ ?_
        · as_aux_lemma =>
          intro f w1 hb hd Q hK
          obtain ⟨X99, Y99, Z99, T99, e99, h99⟩ := (hd.1 rfl : PqP sx sy (f 99) w1)
          obtain ⟨X101, Y101, Z101, T101, e101, h101⟩ := (hd.2.1 rfl : PqP px py (f 101) w1)
          have e98 : f 98 = .bool true := hd.2.2.2.1 rfl
          clear hd
          simp only [e99, e101, e98] at hK
          have hK := Lib.hid hK
          go_wp2_with fail
          refine (pssameV h99 h101 hv3.out _).mono ?_
          rintro e w2 ⟨rfl, hb2⟩
          go_wp2
          exact hK.out _ _ rfl hb2 (fun h => by cases h)
        refine steps2_cons ?_ ?_
        · as_aux_lemma =>
          intro f w1 hb hd Q hK
          have e98 : f 98 = .bool true := hd.1 rfl
          clear hd
          simp only [e98] at hK
          have hK := Lib.hid hK
          refine ldPtG (by simp only [e98]; kernel_rfl) rfl rfl (k14.below hb) ?_
          refine wpList_nil ?_
          simp only [e98]
          exact hK.out _ _ ⟨_, _, _, _, rfl, hE6.out⟩ (Below.refl _ _) (fun h => by cases h)
        refine steps2_cons ?_ ?_
        · as_aux_lemma =>
          intro f w1 hb hd Q hK
          obtain ⟨X103, Y103, Z103, T103, e103, h103⟩ := (hd.1 rfl : PqP sx sy (f 103) w1)
          have e98 : f 98 = .bool true := hd.2.2.1 rfl
          clear hd
          simp only [e103, e98] at hK
          have hK := Lib.hid hK
          go_wp2_with fail
          refine (of_c h103 _).mono ?_
          rintro e w2 ⟨X, Y, Z, rfl, hx, hb2⟩
          go_wp2
          exact hK.out _ _ ⟨X, Y, Z, rfl, hx⟩ hb2 (fun h => by cases h)
        refine steps2_cons ?_ ?_
        · as_aux_lemma =>
          intro f w1 hb hd Q hK
          have e98 : f 98 = .bool true := hd.1 rfl
          clear hd
          simp only [e98] at hK
          have hK := Lib.hid hK
          go_wp2
          exact hK.out _ _ rfl (Below.refl _ _) (fun h => by cases h)
        refine steps2_cons ?_ ?_
        · as_aux_lemma =>
          intro f w1 hb hd Q hK
          have e105 : f 105 = .slice qb m c := hd.1 rfl
          have e98 : f 98 = .bool true := hd.2.2.1 rfl
          clear hd
          simp only [e105, e98] at hK
          have hK := Lib.hid hK
          go_wp2_with fail
          refine (hPt.out w1 (hb0.trans (hb.mono hb0.size))).mono ?_
          rintro e w2 ⟨X, Y, Z, T, rfl, hx, hb2⟩
          go_wp2
          exact hK.out _ _ ⟨X, Y, Z, T, rfl, hx⟩ hb2 (fun h => by cases h)
        refine steps2_cons ?_ ?_
        · as_aux_lemma =>
          intro f w1 hb hd Q hK
          obtain ⟨X106, Y106, Z106, T106, e106, h106⟩ := (hd.1 rfl : PqP px py (f 106) w1)
          have e98 : f 98 = .bool true := hd.2.2.1 rfl
          clear hd
          simp only [e106, e98] at hK
          have hK := Lib.hid hK
          go_wp2_with fail
          refine (of_c h106 _).mono ?_
          rintro e w2 ⟨X, Y, Z, rfl, hx, hb2⟩
          go_wp2
          exact hK.out _ _ ⟨X, Y, Z, rfl, hx⟩ hb2 (fun h => by cases h)
        refine steps2_cons ?_ ?_
        · as_aux_lemma =>
          intro f w1 hb hd Q hK
          obtain ⟨A104, B104, C104, e104, h104⟩ := (hd.1 rfl : RqP sx sy (f 104) w1)
          obtain ⟨A107, B107, C107, e107, h107⟩ := (hd.2.1 rfl : RqP px py (f 107) w1)
          have e98 : f 98 = .bool true := hd.2.2.2.1 rfl
          clear hd
          simp only [e104, e107, e98] at hK
          have hK := Lib.hid hK
          go_wp2_with fail
          refine (rsameV h104 h107 hv3.out _).mono ?_
          rintro e w2 ⟨rfl, hb2⟩
          go_wp2
          exact hK.out _ _ rfl hb2 (fun h => by cases h)
        refine steps2_cons ?_ ?_
        · as_aux_lemma =>
          intro f w1 hb hd Q hK
          have e102 : f 102 = .bool v3 := hd.1 rfl
          have e108 : f 108 = .bool v3 := hd.2.1 rfl
          have e98 : f 98 = .bool true := hd.2.2.1 rfl
          clear hd
          simp only [e102, e108, e98] at hK
          have hK := Lib.hid hK
          have hq : ∀ w, (binOp .eql 4 (.bool v3) (.bool v3)).run Tryd.prog w = .ok (.bool true) w := fun w => by cases v3 <;> kernel_rfl
          go_wp2
          exact hK.out _ _ rfl (Below.refl _ _) (fun h => by cases h)
        refine steps2_cons ?_ ?_
        · as_aux_lemma =>
          intro f w1 hb hd Q hK
          have e98 : f 98 = .bool true := hd.1 rfl
          have e109 : f 109 = .bool true := hd.2.1 rfl
          have e94 : f 94 = .bool false := hd.2.2.1 rfl
          clear hd
          simp only [e98, e109, e94] at hK
          have hK := Lib.hid hK
          go_wp2
          exact hK.out _ _ rfl (Below.refl _ _) (fun h => by cases h)
        refine steps2_cons ?_ ?_
        · as_aux_lemma =>
          intro f w1 hb hd Q hK
          have e94 : f 94 = .bool false := hd.1 rfl
          have e110 : f 110 = .bool true := hd.2.1 rfl
          clear hd
          simp only [e94, e110] at hK
          have hK := Lib.hid hK
          go_wp2
          exact hK.out _ _ rfl (Below.refl _ _) (fun h => by cases h)
        refine steps2_cons ?_ ?_
        · as_aux_lemma =>
          intro f w1 hb hd Q hK
          have e111 : f 111 = .bool true := hd.1 rfl
          clear hd
          simp only [e111] at hK
          have hK := Lib.hid hK
          go_wp2
          exact hK.out _ _ rfl (Below.refl _ _) (fun h => by cases h)
        trivial
      intro f19 w11 hb hf hne
      refine wpList_nil ?_
      have d12 : f19 12 = .bool true := hf 21 _ _ (by decide) rfl rfl
      clear hf hne
      simp only [d12]
      have hP := Lib.hid (hb0.trans (hb.mono hb0.size))
      clear d12 hC9 hb hb0 k13 k14
      go_wp2
      go_returns
      exact ⟨rfl, hP.out⟩
end Go.Proofs.YtpaldgajkhmhbaaDoor
