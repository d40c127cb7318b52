/- The walk of the law EdwardsAdds. EdwardsAdds answers true at every input, and its arguments read as they did; its two package variables are tied to the program's text. -/
import Derived.Test.YtpaldgajkhmhbaaDoorWa
import Derived.Test.YtpaldgajkhmhbaaDoorZd
import Derived.Test.YtpaldgajkhmhbaaDoorZe
namespace Go.Proofs.YtpaldgajkhmhbaaDoor
open Go.RowKit
def ad7L (D : Nat → Int) (w7 : World) (x1 : Fin Fe.P) (y1 : Fin Fe.P) (x2 : Fin Fe.P) (y2 : Fin Fe.P) (x3 : Fin Fe.P) (y3 : Fin Fe.P) : List (Value → World → Prop) := [
  Eq1 (.agg (av D)),
  Eq1 (.agg (av D)),
  PqP x1 y1,
  RqP x1 y1,
  PqP x2 y2,
  RqP x2 y2,
  RqP (Fe.ax x1 y1 x2 y2) (Fe.ay x1 y1 x2 y2),
  PqP x3 y3,
  RqP x3 y3,
  RqP (Fe.ax (Fe.ax x1 y1 x2 y2) (Fe.ay x1 y1 x2 y2) x3 y3) (Fe.ay (Fe.ax x1 y1 x2 y2) (Fe.ay x1 y1 x2 y2) x3 y3),
  NewS w7.heap.size]
theorem ad7S (D : Nat → Int) (w7 : World) (x1 : Fin Fe.P) (y1 : Fin Fe.P) (x2 : Fin Fe.P) (y2 : Fin Fe.P) (x3 : Fin Fe.P) (y3 : Fin Fe.P) : ∀ j x' q q', (ad7L D w7 x1 y1 x2 y2 x3 y3).getD j (fun _ _ => True) x' q → Below q.heap.size q q' → (ad7L D w7 x1 y1 x2 y2 x3 y3).getD j (fun _ _ => True) x' q' := by
  refine sta_all _ ?_
  simp only [ad7L, List.mem_cons, forall_eq_or_imp, List.not_mem_nil, false_implies, implies_true, and_true]
  exact ⟨sta_eq _, sta_eq _, sta_pq _ _, sta_rq _ _, sta_pq _ _, sta_rq _ _, sta_rq _ _, sta_pq _ _, sta_rq _ _, sta_rq _ _, sta_ns _⟩
def ad8L (D : Nat → Int) (x1 : Fin Fe.P) (y1 : Fin Fe.P) (x2 : Fin Fe.P) (y2 : Fin Fe.P) (x3 : Fin Fe.P) (y3 : Fin Fe.P) : List (Value → World → Prop) := [
  PqP x1 y1,
  PqP x2 y2,
  PqP x3 y3,
  SlP 3 (p3 x1 x2 x3) (p3 y1 y2 y3),
  PqP (Fe.ax (Fe.ax x1 y1 x2 y2) (Fe.ay x1 y1 x2 y2) x3 y3) (Fe.ay (Fe.ax x1 y1 x2 y2) (Fe.ay x1 y1 x2 y2) x3 y3),
  PtBy (Fe.ax (Fe.ax x1 y1 x2 y2) (Fe.ay x1 y1 x2 y2) x3 y3) (Fe.ay (Fe.ax x1 y1 x2 y2) (Fe.ay x1 y1 x2 y2) x3 y3),
  RqP (Fe.ax (Fe.ax x1 y1 x2 y2) (Fe.ay x1 y1 x2 y2) x3 y3) (Fe.ay (Fe.ax x1 y1 x2 y2) (Fe.ay x1 y1 x2 y2) x3 y3),
  RbQ (Fe.ax (Fe.ax x1 y1 x2 y2) (Fe.ay x1 y1 x2 y2) x3 y3) (Fe.ay (Fe.ax x1 y1 x2 y2) (Fe.ay x1 y1 x2 y2) x3 y3),
  Eq1 (.bool true),
  Eq1 (.bool true),
  PqP x1 y1,
  PqP (Fe.ax x1 y1 x1 y1) (Fe.ay x1 y1 x1 y1),
  PtBy (Fe.ax x1 y1 x1 y1) (Fe.ay x1 y1 x1 y1),
  Eq1 (.agg (av D)),
  PqP x1 y1,
  RqP x1 y1,
  PqP x1 y1,
  RqP x1 y1,
  RqP (Fe.ax x1 y1 x1 y1) (Fe.ay x1 y1 x1 y1),
  RbQ (Fe.ax x1 y1 x1 y1) (Fe.ay x1 y1 x1 y1),
  Eq1 (.bool true),
  Eq1 (.bool true),
  Eq1 (.bool true),
  PqP x2 y2,
  PqP (-x2) y2,
  PtBy (-x2) y2,
  PqP x2 y2,
  RqP x2 y2,
  RqP (-x2) y2,
  RbQ (-x2) y2,
  Eq1 (.bool true),
  Eq1 (.bool true),
  Eq1 (.bool true)]
theorem ad8S (D : Nat → Int) (x1 : Fin Fe.P) (y1 : Fin Fe.P) (x2 : Fin Fe.P) (y2 : Fin Fe.P) (x3 : Fin Fe.P) (y3 : Fin Fe.P) : ∀ j x' q q', (ad8L D x1 y1 x2 y2 x3 y3).getD j (fun _ _ => True) x' q → Below q.heap.size q q' → (ad8L D x1 y1 x2 y2 x3 y3).getD j (fun _ _ => True) x' q' := by
  refine sta_all _ ?_
  simp only [ad8L, List.mem_cons, forall_eq_or_imp, List.not_mem_nil, false_implies, implies_true, and_true]
  exact ⟨sta_pq _ _, sta_pq _ _, sta_pq _ _, sta_sl _ _ _, sta_pq _ _, sta_by _ _, sta_rq _ _, sta_rbq _ _, sta_eq _, sta_eq _, sta_pq _ _, sta_pq _ _, sta_by _ _, sta_eq _, sta_pq _ _, sta_rq _ _, sta_pq _ _, sta_rq _ _, sta_rq _ _, sta_rbq _ _, sta_eq _, sta_eq _, sta_eq _, sta_pq _ _, sta_pq _ _, sta_by _ _, sta_pq _ _, sta_rq _ _, sta_rq _ _, sta_rbq _ _, sta_eq _, sta_eq _, sta_eq _⟩
set_option maxRecDepth 20000 in
set_option maxHeartbeats 8000000 in
theorem adds4_c (q1 : Option Addr) (n1 c1 : Nat) (b1 : Nat → Int) (q2 : Option Addr) (n2 c2 : Nat) (b2 : Nat → Int) (q3 : Option Addr) (n3 c3 : Nat) (b3 : Nat → Int) (hr1 : ∀ j, 0 ≤ b1 j ∧ b1 j < 256) (hr2 : ∀ j, 0 ≤ b2 j ∧ b2 j < 256) (hr3 : ∀ j, 0 ≤ b3 j ∧ b3 j < 256) (hn1 : n1 ≤ 100) (hn2 : n2 ≤ 100) (hn3 : n3 ≤ 100) (w : World) (hB1 : BAt w q1 n1 b1) (hB2 : BAt w q2 n2 b2) (hB3 : BAt w q3 n3 b3) (hCv : CvP w) : Calls Tryd.prog 6 #[.slice q1 n1 c1, .slice q2 n2 c2, .slice q3 n3 c3] w fun e w' => e = .returned (.bool true) ∧ Below w.heap.size w w' := by
  obtain ⟨D, hd, hadd⟩ := radd_D
  replace hadd := Lib.hid hadd
  replace hd := Lib.hid hd
  have hi1 : (n1 : Int) ≤ 100 := by omega
  have hi2 : (n2 : Int) ≤ 100 := by omega
  have hi3 : (n3 : Int) ≤ 100 := by omega
  have hP1 := Lib.hid (fun w1 (hb : Below w.heap.size w w1) => point_c q1 n1 c1 b1 hr1 hn1 w1 (hB1.below hb) (hCv.below hb hCv.lt))
  have hP2 := Lib.hid (fun w1 (hb : Below w.heap.size w w1) => point_c q2 n2 c2 b2 hr2 hn2 w1 (hB2.below hb) (hCv.below hb hCv.lt))
  have hP3 := Lib.hid (fun w1 (hb : Below w.heap.size w w1) => point_c q3 n3 c3 b3 hr3 hn3 w1 (hB3.below hb) (hCv.below hb hCv.lt))
  replace hCv := Lib.hid hCv
  clear hB1 hB2 hB3 hr1 hr2 hr3 hn1 hn2 hn3
  go_enter Tryd.func6, Tryd.ntmps6
  go_wp2_with fail
  refine (awake4_c w hCv.out).mono ?_
  rintro e w1 ⟨rfl, hb0⟩
  go_wp2_with fail
  refine (hd.out _).mono ?_
  rintro e w2 ⟨rfl, hb⟩
  replace hb0 := hb0.trans (hb.mono hb0.size)
  clear hb
  have LO := hb0.size
  go_wp2_with (refine stN (f := D) (old := fun _ => 0) rfl rfl rfl rfl (Blk.new _ _ _) ?_; intro wD k7 hgr hsz; replace hb0 := (hb0.alloc hb0.size _).grown hgr (Nat.le_trans hb0.size (by simp)) (fun k hk => by injection hk with hk; have := hb0.size; omega); clear hgr hsz)
  obtain ⟨G7, hG7⟩ : ∃ G, G = w2.heap.size := ⟨_, rfl⟩
  rw [← hG7] at k7 LO ⊢
  have loG7 := Lib.hid LO
  clear hG7 LO
  refine (hP1.out wD hb0).mono ?_
  rintro e wp1 ⟨X1, Y1, Z1, T1, rfl, hE1, hb⟩
  replace k7 := k7.below hb
  replace hb0 := hb0.trans (hb.mono hb0.size)
  replace hE1 := Lib.hid hE1
  clear hb hP1
  go_wp2_with fail
  refine (hP2.out wp1 hb0).mono ?_
  rintro e wp2 ⟨X2, Y2, Z2, T2, rfl, hE2, hb⟩
  replace k7 := k7.below hb
  replace hb0 := hb0.trans (hb.mono hb0.size)
  replace hE2 := Lib.hid hE2
  clear hb hP2
  go_wp2_with fail
  refine (hP3.out wp2 hb0).mono ?_
  rintro e wp3 ⟨X3, Y3, Z3, T3, rfl, hE3, hb⟩
  replace k7 := k7.below hb
  replace hb0 := hb0.trans (hb.mono hb0.size)
  replace hE3 := Lib.hid hE3
  clear hb hP3
  have k7lt := k7.lt
  go_wp2_with (first | (refine stPt rfl rfl rfl rfl k10 rfl rfl (by kernel_rfl) ?_; intro w7 m10 hgr hsz; replace k8 := k8.grown hgr (fun h => by injection h with h; omega); replace k9 := k9.grown hgr (fun h => by injection h with h; omega); replace k7 := k7.grown hgr (fun h => by injection h with h; omega); replace hb0 := hb0.grown hgr hb0.size (fun k hk => by injection hk with hk; have := hs4.out; omega); clear k10 hgr hsz) | (refine stPt rfl rfl rfl rfl k9 rfl rfl (by kernel_rfl) ?_; intro w6 m9 hgr hsz; clear k9; have k9 := m9; clear m9; replace k8 := k8.grown hgr (fun h => by injection h with h; omega); replace k10 := k10.grown hgr (fun h => by injection h with h; omega); replace k7 := k7.grown hgr (fun h => by injection h with h; omega); replace hb0 := hb0.grown hgr hb0.size (fun k hk => by injection hk with hk; have := hs4.out; omega); clear hgr hsz) | (refine stPt rfl rfl rfl rfl (((Blk.new _ _ _).alloc _).alloc _) rfl rfl (by kernel_rfl) ?_; intro w5 k8 hgr hsz; have k9 := Blk.grown ((blk_at (g := wp3.heap.size + 1) (by simp) (Blk.new _ _ _)).alloc _) hgr (fun h => by injection h with h; omega); have k10 := Blk.grown (blk_at (g := wp3.heap.size + 1 + 1) (by simp) (Blk.new _ _ _)) hgr (fun h => by injection h with h; omega); replace k7 := ((((k7.alloc _).alloc _).alloc _)).grown hgr (fun h => by injection h with h; omega); have hs4 := Lib.hid hb0.size; replace hb0 := Below.grown (((hb0.alloc hb0.size _).alloc (by rw [World.size_alloc]; have := hb0.size; omega) _).alloc (by simp only [World.size_alloc]; have := hb0.size; omega) _) hgr (by simp only [World.size_alloc]; have := hb0.size; omega) (fun k hk => by injection hk with hk; have := hb0.size; omega); clear hgr hsz))
  clear k7lt
  have hs4' := hs4.out
  obtain ⟨G10, hG10⟩ : ∃ G, G = wp3.heap.size + 1 + 1 := ⟨_, rfl⟩
  rw [← hG10] at m10 ⊢
  obtain ⟨G9, hG9⟩ : ∃ G, G = wp3.heap.size + 1 := ⟨_, rfl⟩
  rw [← hG9] at k9 ⊢
  obtain ⟨G8, hG8⟩ : ∃ G, G = wp3.heap.size := ⟨_, rfl⟩
  rw [← hG8] at k8 ⊢
  clear hG8 hG9 hG10 hs4 hs4'
  obtain ⟨x1, hx1⟩ : ∃ v, ptX n1 b1 = v := ⟨_, rfl⟩
  obtain ⟨y1, hy1⟩ : ∃ v, ptY n1 b1 = v := ⟨_, rfl⟩
  rw [hx1, hy1] at hE1
  clear hx1 hy1
  obtain ⟨x2, hx2⟩ : ∃ v, ptX n2 b2 = v := ⟨_, rfl⟩
  obtain ⟨y2, hy2⟩ : ∃ v, ptY n2 b2 = v := ⟨_, rfl⟩
  rw [hx2, hy2] at hE2
  clear hx2 hy2
  obtain ⟨x3, hx3⟩ : ∃ v, ptX n3 b3 = v := ⟨_, rfl⟩
  obtain ⟨y3, hy3⟩ : ∃ v, ptY n3 b3 = v := ⟨_, rfl⟩
  rw [hx3, hy3] at hE3
  clear hx3 hy3
  have hC7 := hCv.out.below hb0 hCv.out.lt
  refine wp_region_grow2 11 (fun k => Nat.beq k 11 || (Nat.ble 34 k && Nat.ble k 43)) _ [] (fun j x' q => (ad7L D w7 x1 y1 x2 y2 x3 y3).getD j (fun _ _ => True) x' q) (fun _ => false) (fun f => #[.slice q1 n1 c1, .slice q2 n2 c2, .slice q3 n3 c3, undef, undef, undef, .bool false, .pointer (some ⟨G7, 0, none⟩), .pointer (some ⟨G8, 0, none⟩), .pointer (some ⟨G9, 0, none⟩), .pointer (some ⟨G10, 0, none⟩), f 11, .bool true, .bool false, .slice q1 n1 c1, .int .i64 (n1 : Int), .bool (decide (100 < (n1 : Int))), .bool (decide (100 < (n1 : Int))), .slice q2 n2 c2, .int .i64 (n2 : Int), .bool (decide (100 < (n2 : Int))), .bool (decide (100 < (n1 : Int)) || decide (100 < (n2 : Int))), .bool (decide (100 < (n1 : Int)) || decide (100 < (n2 : Int))), .slice q3 n3 c3, .int .i64 (n3 : Int), .bool (decide (100 < (n3 : Int))), .bool (decide (100 < (n1 : Int)) || decide (100 < (n2 : Int)) || decide (100 < (n3 : Int))), .agg (av D), .slice q1 n1 c1, .agg (pcs X1 Y1 Z1 T1), .slice q2 n2 c2, .agg (pcs X2 Y2 Z2 T2), .slice q3 n3 c3, .agg (pcs X3 Y3 Z3 T3), f 34, f 35, f 36, f 37, f 38, f 39, f 40, f 41, f 42, f 43, undef, undef, undef, undef, undef, undef, undef, undef, undef, undef, undef, undef, undef, undef, undef, undef, undef, undef, undef, undef, undef, undef, undef, undef, undef, undef, undef, undef, undef, undef, undef, undef]) (fun f => rfl) (by kernel_rfl) (by kernel_rfl) (by kernel_rfl) (by kernel_rfl) (by kernel_rfl) (ad7S _ _ _ _ _ _ _ _) (fun _ _ _ h => by cases h) ?_ ?_
  · refine steps2_cons ?_ ?_
    · as_aux_lemma =>
      intro f w1 hb hd Q hK
      clear hd
      have hK := Lib.hid hK
      refine ldNw (by kernel_rfl) rfl rfl (k7.below hb) ?_
      refine wpList_nil ?_
      exact hK.out _ _ rfl (Below.refl _ _) (fun h => by cases h)
    refine steps2_cons ?_ ?_
    · as_aux_lemma =>
      intro f w1 hb hd Q hK
      clear hd
      have hK := Lib.hid hK
      refine ldNw (by kernel_rfl) rfl rfl (k7.below hb) ?_
      refine wpList_nil ?_
      exact hK.out _ _ rfl (Below.refl _ _) (fun h => by cases h)
    refine steps2_cons ?_ ?_
    · as_aux_lemma =>
      intro f w1 hb hd Q hK
      clear hd
      have hK := Lib.hid hK
      refine ldPtG (by kernel_rfl) rfl rfl (k8.below hb) ?_
      refine wpList_nil ?_
      exact hK.out _ _ ⟨_, _, _, _, rfl, hE1.out⟩ (Below.refl _ _) (fun h => by cases h)
    refine steps2_cons ?_ ?_
    · as_aux_lemma =>
      intro f w1 hb hd Q hK
      obtain ⟨X36, Y36, Z36, T36, e36, h36⟩ := (hd.1 rfl : PqP x1 y1 (f 36) w1)
      clear hd
      simp only [e36] at hK
      have hK := Lib.hid hK
      go_wp2_with fail
      refine (of_c h36 _).mono ?_
      rintro e w2 ⟨X, Y, Z, rfl, hx, hb2⟩
      go_wp2
      exact hK.out _ _ ⟨X, Y, Z, rfl, hx⟩ hb2 (fun h => by cases h)
    refine steps2_cons ?_ ?_
    · as_aux_lemma =>
      intro f w1 hb hd Q hK
      clear hd
      have hK := Lib.hid hK
      refine ldPtG (by kernel_rfl) rfl rfl (k9.below hb) ?_
      refine wpList_nil ?_
      exact hK.out _ _ ⟨_, _, _, _, rfl, hE2.out⟩ (Below.refl _ _) (fun h => by cases h)
    refine steps2_cons ?_ ?_
    · as_aux_lemma =>
      intro f w1 hb hd Q hK
      obtain ⟨X38, Y38, Z38, T38, e38, h38⟩ := (hd.1 rfl : PqP x2 y2 (f 38) w1)
      clear hd
      simp only [e38] at hK
      have hK := Lib.hid hK
      go_wp2_with fail
      refine (of_c h38 _).mono ?_
      rintro e w2 ⟨X, Y, Z, rfl, hx, hb2⟩
      go_wp2
      exact hK.out _ _ ⟨X, Y, Z, rfl, hx⟩ hb2 (fun h => by cases h)
    refine steps2_cons ?_ ?_
    · as_aux_lemma =>
      intro f w1 hb hd Q hK
      have e35 : f 35 = .agg (av D) := hd.1 rfl
      obtain ⟨A37, B37, C37, e37, h37⟩ := (hd.2.1 rfl : RqP x1 y1 (f 37) w1)
      obtain ⟨A39, B39, C39, e39, h39⟩ := (hd.2.2.1 rfl : RqP x2 y2 (f 39) w1)
      clear hd
      simp only [e35, e37, e39] at hK
      have hK := Lib.hid hK
      go_wp2_with fail
      refine (hadd.out _ _ _ _ _ _ _ _ _ _ h37 h39 _).mono ?_
      rintro e w2 ⟨X, Y, Z, rfl, hx, hb2⟩
      go_wp2
      exact hK.out _ _ ⟨X, Y, Z, rfl, hx⟩ hb2 (fun h => by cases h)
    refine steps2_cons ?_ ?_
    · as_aux_lemma =>
      intro f w1 hb hd Q hK
      clear hd
      have hK := Lib.hid hK
      refine ldPtG (by kernel_rfl) rfl rfl (m10.below hb) ?_
      refine wpList_nil ?_
      exact hK.out _ _ ⟨_, _, _, _, rfl, hE3.out⟩ (Below.refl _ _) (fun h => by cases h)
    refine steps2_cons ?_ ?_
    · as_aux_lemma =>
      intro f w1 hb hd Q hK
      obtain ⟨X41, Y41, Z41, T41, e41, h41⟩ := (hd.1 rfl : PqP x3 y3 (f 41) w1)
      clear hd
      simp only [e41] at hK
      have hK := Lib.hid hK
      go_wp2_with fail
      refine (of_c h41 _).mono ?_
      rintro e w2 ⟨X, Y, Z, rfl, hx, hb2⟩
      go_wp2
      exact hK.out _ _ ⟨X, Y, Z, rfl, hx⟩ hb2 (fun h => by cases h)
    refine steps2_cons ?_ ?_
    · as_aux_lemma =>
      intro f w1 hb hd Q hK
      have e34 : f 34 = .agg (av D) := hd.1 rfl
      obtain ⟨A40, B40, C40, e40, h40⟩ := (hd.2.1 rfl : RqP (Fe.ax x1 y1 x2 y2) (Fe.ay x1 y1 x2 y2) (f 40) w1)
      obtain ⟨A42, B42, C42, e42, h42⟩ := (hd.2.2.1 rfl : RqP x3 y3 (f 42) w1)
      clear hd
      simp only [e34, e40, e42] at hK
      have hK := Lib.hid hK
      go_wp2_with fail
      refine (hadd.out _ _ _ _ _ _ _ _ _ _ h40 h42 _).mono ?_
      rintro e w2 ⟨X, Y, Z, rfl, hx, hb2⟩
      go_wp2
      exact hK.out _ _ ⟨X, Y, Z, rfl, hx⟩ hb2 (fun h => by cases h)
    refine steps2_cons ?_ ?_
    · as_aux_lemma =>
      intro f w1 hb hd Q hK
      clear hd
      have hK := Lib.hid hK
      have hsz := hb.size
      go_wp2
      exact hK.out _ _ ⟨_, rfl, hsz, _, Blk.new _ _ _, rfl⟩ ((Below.refl _ _).alloc (Nat.le_refl _) _) (fun h => by cases h)
    trivial
  · intro f7 w8 hb hf hne
    obtain ⟨g11, d11, lo11, old11, bk11, so11⟩ : NewS w7.heap.size (f7 11) w8 := hf 10 _ _ (by decide) rfl rfl
    obtain ⟨A43, B43, C43, d43, h43⟩ : RqP (Fe.ax (Fe.ax x1 y1 x2 y2) (Fe.ay x1 y1 x2 y2) x3 y3) (Fe.ay (Fe.ax x1 y1 x2 y2) (Fe.ay x1 y1 x2 y2) x3 y3) (f7 43) w8 := hf 9 _ _ (by decide) rfl rfl
    clear hf hne
    have nG7_11 : G7 ≠ g11 := by have := k7.lt; omega
    have nG8_11 : G8 ≠ g11 := by have := k8.lt; omega
    have nG9_11 : G9 ≠ g11 := by have := k9.lt; omega
    have nG10_11 : G10 ≠ g11 := by have := m10.lt; omega
    replace lo11 : w.heap.size ≤ g11 := Nat.le_trans hb0.size lo11
    simp only [d11, d43]
    clear d11 d43
    replace k7 := k7.below hb
    replace k8 := k8.below hb
    replace k9 := k9.below hb
    replace m10 := m10.below hb
    replace hb0 := hb0.trans (hb.mono hb0.size)
    clear hb hC7
    refine stT rfl rfl rfl rfl bk11 so11 ?_
    intro w9 k11 hgr hsz
    replace k7 := k7.grown hgr (fun h => nG7_11 (by injection h))
    replace k8 := k8.grown hgr (fun h => nG8_11 (by injection h))
    replace k9 := k9.grown hgr (fun h => nG9_11 (by injection h))
    replace m10 := m10.grown hgr (fun h => nG10_11 (by injection h))
    replace hb0 := hb0.grown hgr hb0.size (fun k hk => by injection hk with hk; omega)
    clear hgr hsz bk11
    replace h43 := Lib.hid h43
    refine wpList_nil ?_
    go_wp2
    have hC9 := hCv.out.below hb0 hCv.out.lt
    refine wp_region_grow2 33 (fun k => Nat.beq k 6 || (Nat.ble 44 k && Nat.ble k 75)) _ [] (fun j x' q => (ad8L D x1 y1 x2 y2 x3 y3).getD j (fun _ _ => True) x' q) (fun _ => false) (fun f => #[.slice q1 n1 c1, .slice q2 n2 c2, .slice q3 n3 c3, undef, undef, undef, f 6, .pointer (some ⟨G7, 0, none⟩), .pointer (some ⟨G8, 0, none⟩), .pointer (some ⟨G9, 0, none⟩), .pointer (some ⟨G10, 0, none⟩), .pointer (some ⟨g11, 0, none⟩), .bool true, .bool false, .slice q1 n1 c1, .int .i64 (n1 : Int), .bool (decide (100 < (n1 : Int))), .bool (decide (100 < (n1 : Int))), .slice q2 n2 c2, .int .i64 (n2 : Int), .bool (decide (100 < (n2 : Int))), .bool (decide (100 < (n1 : Int)) || decide (100 < (n2 : Int))), .bool (decide (100 < (n1 : Int)) || decide (100 < (n2 : Int))), .slice q3 n3 c3, .int .i64 (n3 : Int), .bool (decide (100 < (n3 : Int))), .bool (decide (100 < (n1 : Int)) || decide (100 < (n2 : Int)) || decide (100 < (n3 : Int))), .agg (av D), .slice q1 n1 c1, .agg (pcs X1 Y1 Z1 T1), .slice q2 n2 c2, .agg (pcs X2 Y2 Z2 T2), .slice q3 n3 c3, .agg (pcs X3 Y3 Z3 T3), f7 34, f7 35, f7 36, f7 37, f7 38, f7 39, f7 40, f7 41, f7 42, .agg (tcs A43 B43 C43), f 44, f 45, f 46, f 47, f 48, f 49, f 50, f 51, f 52, f 53, f 54, f 55, f 56, f 57, f 58, f 59, f 60, f 61, f 62, f 63, f 64, f 65, f 66, f 67, f 68, f 69, f 70, f 71, f 72, f 73, f 74, f 75]) (fun f => rfl) (by kernel_rfl) (by kernel_rfl) (by kernel_rfl) (by kernel_rfl) (by kernel_rfl) (ad8S _ _ _ _ _ _ _) (fun _ _ _ h => by cases h) ?_ ?_
    · refine steps2_cons ?_ ?_
      · as_aux_lemma =>
        intro f w1 hb hd Q hK
        clear hd
        have hK := Lib.hid hK
        refine ldPtG (by kernel_rfl) rfl rfl (k8.below hb) ?_
        refine wpList_nil ?_
        exact hK.out _ _ ⟨_, _, _, _, rfl, hE1.out⟩ (Below.refl _ _) (fun h => by cases h)
      refine steps2_cons ?_ ?_
      · as_aux_lemma =>
        intro f w1 hb hd Q hK
        clear hd
        have hK := Lib.hid hK
        refine ldPtG (by kernel_rfl) rfl rfl (k9.below hb) ?_
        refine wpList_nil ?_
        exact hK.out _ _ ⟨_, _, _, _, rfl, hE2.out⟩ (Below.refl _ _) (fun h => by cases h)
      refine steps2_cons ?_ ?_
      · as_aux_lemma =>
        intro f w1 hb hd Q hK
        clear hd
        have hK := Lib.hid hK
        refine ldPtG (by kernel_rfl) rfl rfl (m10.below hb) ?_
        refine wpList_nil ?_
        exact hK.out _ _ ⟨_, _, _, _, rfl, hE3.out⟩ (Below.refl _ _) (fun h => by cases h)
      refine steps2_cons ?_ ?_
      · as_aux_lemma =>
        intro f w1 hb hd Q hK
        obtain ⟨X44, Y44, Z44, T44, e44, h44⟩ := (hd.1 rfl : PqP x1 y1 (f 44) w1)
        obtain ⟨X45, Y45, Z45, T45, e45, h45⟩ := (hd.2.1 rfl : PqP x2 y2 (f 45) w1)
        obtain ⟨X46, Y46, Z46, T46, e46, h46⟩ := (hd.2.2.1 rfl : PqP x3 y3 (f 46) w1)
        clear hd
        simp only [e44, e45, e46] at hK
        have hK := Lib.hid hK
        refine bs3G (by simp only [e44, e45, e46]; kernel_rfl) rfl e44 e45 e46 ?_
        refine wpList_nil ?_
        simp only [e44, e45, e46]
        exact hK.out _ _ (slP3 _ h44 h45 h46) ((Below.refl _ _).alloc (Nat.le_refl _) _) (fun h => by cases h)
      refine steps2_cons ?_ ?_
      · as_aux_lemma =>
        intro f w1 hb hd Q hK
        obtain ⟨g47, e47, lt47, h47⟩ := (hd.1 rfl : SlP 3 (p3 x1 x2 x3) (p3 y1 y2 y3) (f 47) w1)
        clear hd
        simp only [e47] at hK
        have hK := Lib.hid hK
        go_wp2_with fail
        refine (addq3_c g47 _ _ _ _ _ _ _ lt47 h47 (hC9.below hb hC9.lt)).mono ?_
        rintro e w2 ⟨X, Y, Z, T, rfl, hx, hb2⟩
        go_wp2
        exact hK.out _ _ ⟨X, Y, Z, T, rfl, hx⟩ hb2 (fun h => by cases h)
      refine steps2_cons ?_ ?_
      · as_aux_lemma =>
        intro f w1 hb hd Q hK
        obtain ⟨X48, Y48, Z48, T48, e48, h48⟩ := (hd.1 rfl : PqP (Fe.ax (Fe.ax x1 y1 x2 y2) (Fe.ay x1 y1 x2 y2) x3 y3) (Fe.ay (Fe.ax x1 y1 x2 y2) (Fe.ay x1 y1 x2 y2) x3 y3) (f 48) w1)
        clear hd
        simp only [e48] at hK
        have hK := Lib.hid hK
        go_wp2_with fail
        refine (pput_c _ h48).mono ?_
        rintro e w2 ⟨g, hg, rfl, hR, hb2⟩
        go_wp2
        exact hK.out _ _ ⟨g, rfl, hR⟩ hb2 (fun h => by cases h)
      refine steps2_cons ?_ ?_
      · as_aux_lemma =>
        intro f w1 hb hd Q hK
        clear hd
        have hK := Lib.hid hK
        refine ldTw (by kernel_rfl) rfl rfl (k11.below hb) ?_
        refine wpList_nil ?_
        exact hK.out _ _ ⟨_, _, _, rfl, h43.out⟩ (Below.refl _ _) (fun h => by cases h)
      refine steps2_cons ?_ ?_
      · as_aux_lemma =>
        intro f w1 hb hd Q hK
        obtain ⟨A50, B50, C50, e50, h50⟩ := (hd.1 rfl : RqP (Fe.ax (Fe.ax x1 y1 x2 y2) (Fe.ay x1 y1 x2 y2) x3 y3) (Fe.ay (Fe.ax x1 y1 x2 y2) (Fe.ay x1 y1 x2 y2) x3 y3) (f 50) w1)
        clear hd
        simp only [e50] at hK
        have hK := Lib.hid hK
        go_wp2_with fail
        refine (rbytes_c h50 _).mono ?_
        rintro e w2 ⟨g, c, hg, rfl, hR, hb2⟩
        go_wp2
        exact hK.out _ _ ⟨g, c, rfl, hR⟩ hb2 (fun h => by cases h)
      refine steps2_cons ?_ ?_
      · as_aux_lemma =>
        intro f w1 hb hd Q hK
        obtain ⟨g49, e49, h49⟩ := (hd.1 rfl : PtBy (Fe.ax (Fe.ax x1 y1 x2 y2) (Fe.ay x1 y1 x2 y2) x3 y3) (Fe.ay (Fe.ax x1 y1 x2 y2) (Fe.ay x1 y1 x2 y2) x3 y3) (f 49) w1)
        obtain ⟨g51, c51, e51, h51⟩ := (hd.2.1 rfl : RbQ (Fe.ax (Fe.ax x1 y1 x2 y2) (Fe.ay x1 y1 x2 y2) x3 y3) (Fe.ay (Fe.ax x1 y1 x2 y2) (Fe.ay x1 y1 x2 y2) x3 y3) (f 51) w1)
        clear hd
        simp only [e49, e51] at hK
        have hK := Lib.hid hK
        go_wp2_with fail
        refine (sameRef h49 h51).mono ?_
        rintro e w2 ⟨rfl, hb2⟩
        go_wp2
        exact hK.out _ _ rfl hb2 (fun h => by cases h)
      refine steps2_cons ?_ ?_
      · as_aux_lemma =>
        intro f w1 hb hd Q hK
        have e52 : f 52 = .bool true := hd.1 rfl
        clear hd
        simp only [e52] at hK
        have hK := Lib.hid hK
        go_wp2
        exact hK.out _ _ rfl (Below.refl _ _) (fun h => by cases h)
      refine steps2_cons ?_ ?_
      · as_aux_lemma =>
        intro f w1 hb hd Q hK
        have e53 : f 53 = .bool true := hd.1 rfl
        clear hd
        simp only [e53] at hK
        have hK := Lib.hid hK
        refine ldPtG (by simp only [e53]; kernel_rfl) rfl rfl (k8.below hb) ?_
        refine wpList_nil ?_
        simp only [e53]
        exact hK.out _ _ ⟨_, _, _, _, rfl, hE1.out⟩ (Below.refl _ _) (fun h => by cases h)
      refine steps2_cons ?_ ?_
      · as_aux_lemma =>
        intro f w1 hb hd Q hK
        obtain ⟨X54, Y54, Z54, T54, e54, h54⟩ := (hd.1 rfl : PqP x1 y1 (f 54) w1)
        have e53 : f 53 = .bool true := hd.2.1 rfl
        clear hd
        simp only [e54, e53] at hK
        have hK := Lib.hid hK
        go_wp2_with fail
        refine (pdbl_c _ h54).mono ?_
        rintro e w2 ⟨X, Y, Z, T, rfl, hx, hb2⟩
        go_wp2
        exact hK.out _ _ ⟨X, Y, Z, T, rfl, hx⟩ hb2 (fun h => by cases h)
      refine steps2_cons ?_ ?_
      · as_aux_lemma =>
        intro f w1 hb hd Q hK
        obtain ⟨X55, Y55, Z55, T55, e55, h55⟩ := (hd.1 rfl : PqP (Fe.ax x1 y1 x1 y1) (Fe.ay x1 y1 x1 y1) (f 55) w1)
        have e53 : f 53 = .bool true := hd.2.2.1 rfl
        clear hd
        simp only [e55, e53] at hK
        have hK := Lib.hid hK
        go_wp2_with fail
        refine (pput_c _ h55).mono ?_
        rintro e w2 ⟨g, hg, rfl, hR, hb2⟩
        go_wp2
        exact hK.out _ _ ⟨g, rfl, hR⟩ hb2 (fun h => by cases h)
      refine steps2_cons ?_ ?_
      · as_aux_lemma =>
        intro f w1 hb hd Q hK
        have e53 : f 53 = .bool true := hd.1 rfl
        clear hd
        simp only [e53] at hK
        have hK := Lib.hid hK
        refine ldNw (by simp only [e53]; kernel_rfl) rfl rfl (k7.below hb) ?_
        refine wpList_nil ?_
        simp only [e53]
        exact hK.out _ _ rfl (Below.refl _ _) (fun h => by cases h)
      refine steps2_cons ?_ ?_
      · as_aux_lemma =>
        intro f w1 hb hd Q hK
        have e53 : f 53 = .bool true := hd.1 rfl
        clear hd
        simp only [e53] at hK
        have hK := Lib.hid hK
        refine ldPtG (by simp only [e53]; kernel_rfl) rfl rfl (k8.below hb) ?_
        refine wpList_nil ?_
        simp only [e53]
        exact hK.out _ _ ⟨_, _, _, _, rfl, hE1.out⟩ (Below.refl _ _) (fun h => by cases h)
      refine steps2_cons ?_ ?_
      · as_aux_lemma =>
        intro f w1 hb hd Q hK
        obtain ⟨X58, Y58, Z58, T58, e58, h58⟩ := (hd.1 rfl : PqP x1 y1 (f 58) w1)
        have e53 : f 53 = .bool true := hd.2.2.1 rfl
        clear hd
        simp only [e58, e53] at hK
        have hK := Lib.hid hK
        go_wp2_with fail
        refine (of_c h58 _).mono ?_
        rintro e w2 ⟨X, Y, Z, rfl, hx, hb2⟩
        go_wp2
        exact hK.out _ _ ⟨X, Y, Z, rfl, hx⟩ hb2 (fun h => by cases h)
      refine steps2_cons ?_ ?_
      · as_aux_lemma =>
        intro f w1 hb hd Q hK
        have e53 : f 53 = .bool true := hd.1 rfl
        clear hd
        simp only [e53] at hK
        have hK := Lib.hid hK
        refine ldPtG (by simp only [e53]; kernel_rfl) rfl rfl (k8.below hb) ?_
        refine wpList_nil ?_
        simp only [e53]
        exact hK.out _ _ ⟨_, _, _, _, rfl, hE1.out⟩ (Below.refl _ _) (fun h => by cases h)
      refine steps2_cons ?_ ?_
      · as_aux_lemma =>
        intro f w1 hb hd Q hK
        obtain ⟨X60, Y60, Z60, T60, e60, h60⟩ := (hd.1 rfl : PqP x1 y1 (f 60) w1)
        have e53 : f 53 = .bool true := hd.2.2.1 rfl
        clear hd
        simp only [e60, e53] at hK
        have hK := Lib.hid hK
        go_wp2_with fail
        refine (of_c h60 _).mono ?_
        rintro e w2 ⟨X, Y, Z, rfl, hx, hb2⟩
        go_wp2
        exact hK.out _ _ ⟨X, Y, Z, rfl, hx⟩ hb2 (fun h => by cases h)
      refine steps2_cons ?_ ?_
      · as_aux_lemma =>
        intro f w1 hb hd Q hK
        have e57 : f 57 = .agg (av D) := hd.1 rfl
        obtain ⟨A59, B59, C59, e59, h59⟩ := (hd.2.1 rfl : RqP x1 y1 (f 59) w1)
        obtain ⟨A61, B61, C61, e61, h61⟩ := (hd.2.2.1 rfl : RqP x1 y1 (f 61) w1)
        have e53 : f 53 = .bool true := hd.2.2.2.2.1 rfl
        clear hd
        simp only [e57, e59, e61, e53] at hK
        have hK := Lib.hid hK
        go_wp2_with fail
        refine (hadd.out _ _ _ _ _ _ _ _ _ _ h59 h61 _).mono ?_
        rintro e w2 ⟨X, Y, Z, rfl, hx, hb2⟩
        go_wp2
        exact hK.out _ _ ⟨X, Y, Z, rfl, hx⟩ hb2 (fun h => by cases h)
      refine steps2_cons ?_ ?_
      · as_aux_lemma =>
        intro f w1 hb hd Q hK
        obtain ⟨A62, B62, C62, e62, h62⟩ := (hd.1 rfl : RqP (Fe.ax x1 y1 x1 y1) (Fe.ay x1 y1 x1 y1) (f 62) w1)
        have e53 : f 53 = .bool true := hd.2.2.1 rfl
        clear hd
        simp only [e62, e53] at hK
        have hK := Lib.hid hK
        go_wp2_with fail
        refine (rbytes_c h62 _).mono ?_
        rintro e w2 ⟨g, c, hg, rfl, hR, hb2⟩
        go_wp2
        exact hK.out _ _ ⟨g, c, rfl, hR⟩ hb2 (fun h => by cases h)
      refine steps2_cons ?_ ?_
      · as_aux_lemma =>
        intro f w1 hb hd Q hK
        obtain ⟨g56, e56, h56⟩ := (hd.1 rfl : PtBy (Fe.ax x1 y1 x1 y1) (Fe.ay x1 y1 x1 y1) (f 56) w1)
        obtain ⟨g63, c63, e63, h63⟩ := (hd.2.1 rfl : RbQ (Fe.ax x1 y1 x1 y1) (Fe.ay x1 y1 x1 y1) (f 63) w1)
        have e53 : f 53 = .bool true := hd.2.2.2.1 rfl
        clear hd
        simp only [e56, e63, e53] at hK
        have hK := Lib.hid hK
        go_wp2_with fail
        refine (sameRef h56 h63).mono ?_
        rintro e w2 ⟨rfl, hb2⟩
        go_wp2
        exact hK.out _ _ rfl hb2 (fun h => by cases h)
      refine steps2_cons ?_ ?_
      · as_aux_lemma =>
        intro f w1 hb hd Q hK
        have e53 : f 53 = .bool true := hd.1 rfl
        have e64 : f 64 = .bool true := hd.2.1 rfl
        clear hd
        simp only [e53, e64] at hK
        have hK := Lib.hid hK
        go_wp2
        exact hK.out _ _ rfl (Below.refl _ _) (fun h => by cases h)
      refine steps2_cons ?_ ?_
      · as_aux_lemma =>
        intro f w1 hb hd Q hK
        have e65 : f 65 = .bool true := hd.1 rfl
        clear hd
        simp only [e65] at hK
        have hK := Lib.hid hK
        go_wp2
        exact hK.out _ _ rfl (Below.refl _ _) (fun h => by cases h)
      refine steps2_cons ?_ ?_
      · as_aux_lemma =>
        intro f w1 hb hd Q hK
        have e66 : f 66 = .bool true := hd.1 rfl
        clear hd
        simp only [e66] at hK
        have hK := Lib.hid hK
        refine ldPtG (by simp only [e66]; kernel_rfl) rfl rfl (k9.below hb) ?_
        refine wpList_nil ?_
        simp only [e66]
        exact hK.out _ _ ⟨_, _, _, _, rfl, hE2.out⟩ (Below.refl _ _) (fun h => by cases h)
      refine steps2_cons ?_ ?_
      · as_aux_lemma =>
        intro f w1 hb hd Q hK
        obtain ⟨X67, Y67, Z67, T67, e67, h67⟩ := (hd.1 rfl : PqP x2 y2 (f 67) w1)
        have e66 : f 66 = .bool true := hd.2.1 rfl
        clear hd
        simp only [e67, e66] at hK
        have hK := Lib.hid hK
        go_wp2_with fail
        refine (pneg_c _ h67).mono ?_
        rintro e w2 ⟨X, Y, Z, T, rfl, hx, hb2⟩
        go_wp2
        exact hK.out _ _ ⟨X, Y, Z, T, rfl, hx⟩ hb2 (fun h => by cases h)
      refine steps2_cons ?_ ?_
      · as_aux_lemma =>
        intro f w1 hb hd Q hK
        obtain ⟨X68, Y68, Z68, T68, e68, h68⟩ := (hd.1 rfl : PqP (-x2) y2 (f 68) w1)
        have e66 : f 66 = .bool true := hd.2.2.1 rfl
        clear hd
        simp only [e68, e66] at hK
        have hK := Lib.hid hK
        go_wp2_with fail
        refine (pput_c _ h68).mono ?_
        rintro e w2 ⟨g, hg, rfl, hR, hb2⟩
        go_wp2
        exact hK.out _ _ ⟨g, rfl, hR⟩ hb2 (fun h => by cases h)
      refine steps2_cons ?_ ?_
      · as_aux_lemma =>
        intro f w1 hb hd Q hK
        have e66 : f 66 = .bool true := hd.1 rfl
        clear hd
        simp only [e66] at hK
        have hK := Lib.hid hK
        refine ldPtG (by simp only [e66]; kernel_rfl) rfl rfl (k9.below hb) ?_
        refine wpList_nil ?_
        simp only [e66]
        exact hK.out _ _ ⟨_, _, _, _, rfl, hE2.out⟩ (Below.refl _ _) (fun h => by cases h)
      refine steps2_cons ?_ ?_
      · as_aux_lemma =>
        intro f w1 hb hd Q hK
        obtain ⟨X70, Y70, Z70, T70, e70, h70⟩ := (hd.1 rfl : PqP x2 y2 (f 70) w1)
        have e66 : f 66 = .bool true := hd.2.2.1 rfl
        clear hd
        simp only [e70, e66] at hK
        have hK := Lib.hid hK
        go_wp2_with fail
        refine (of_c h70 _).mono ?_
        rintro e w2 ⟨X, Y, Z, rfl, hx, hb2⟩
        go_wp2
        exact hK.out _ _ ⟨X, Y, Z, rfl, hx⟩ hb2 (fun h => by cases h)
      refine steps2_cons ?_ ?_
      · as_aux_lemma =>
        intro f w1 hb hd Q hK
        obtain ⟨A71, B71, C71, e71, h71⟩ := (hd.1 rfl : RqP x2 y2 (f 71) w1)
        have e66 : f 66 = .bool true := hd.2.2.1 rfl
        clear hd
        simp only [e71, e66] at hK
        have hK := Lib.hid hK
        go_wp2_with fail
        refine (rneg_c h71 _).mono ?_
        rintro e w2 ⟨X, Y, Z, rfl, hx, hb2⟩
        go_wp2
        exact hK.out _ _ ⟨X, Y, Z, rfl, hx⟩ hb2 (fun h => by cases h)
      refine steps2_cons ?_ ?_
      · as_aux_lemma =>
        intro f w1 hb hd Q hK
        obtain ⟨A72, B72, C72, e72, h72⟩ := (hd.1 rfl : RqP (-x2) y2 (f 72) w1)
        have e66 : f 66 = .bool true := hd.2.2.1 rfl
        clear hd
        simp only [e72, e66] at hK
        have hK := Lib.hid hK
        go_wp2_with fail
        refine (rbytes_c h72 _).mono ?_
        rintro e w2 ⟨g, c, hg, rfl, hR, hb2⟩
        go_wp2
        exact hK.out _ _ ⟨g, c, rfl, hR⟩ hb2 (fun h => by cases h)
      refine steps2_cons ?_ ?_
      · as_aux_lemma =>
        intro f w1 hb hd Q hK
        obtain ⟨g69, e69, h69⟩ := (hd.1 rfl : PtBy (-x2) y2 (f 69) w1)
        obtain ⟨g73, c73, e73, h73⟩ := (hd.2.1 rfl : RbQ (-x2) y2 (f 73) w1)
        have e66 : f 66 = .bool true := hd.2.2.2.1 rfl
        clear hd
        simp only [e69, e73, e66] at hK
        have hK := Lib.hid hK
        go_wp2_with fail
        refine (sameRef h69 h73).mono ?_
        rintro e w2 ⟨rfl, hb2⟩
        go_wp2
        exact hK.out _ _ rfl hb2 (fun h => by cases h)
      refine steps2_cons ?_ ?_
      · as_aux_lemma =>
        intro f w1 hb hd Q hK
        have e66 : f 66 = .bool true := hd.1 rfl
        have e74 : f 74 = .bool true := hd.2.1 rfl
        clear hd
        simp only [e66, e74] at hK
        have hK := Lib.hid hK
        go_wp2
        exact hK.out _ _ rfl (Below.refl _ _) (fun h => by cases h)
      refine steps2_cons ?_ ?_
      · as_aux_lemma =>
        intro f w1 hb hd Q hK
        have e75 : f 75 = .bool true := hd.1 rfl
        clear hd
        simp only [e75] at hK
        have hK := Lib.hid hK
        go_wp2
        exact hK.out _ _ rfl (Below.refl _ _) (fun h => by cases h)
      trivial
    · intro f8 w10 hb hf hne
      refine wpList_nil ?_
      have d6 : f8 6 = .bool true := hf 32 _ _ (by decide) rfl rfl
      clear hf hne
      simp only [d6]
      have hP := Lib.hid (hb0.trans (hb.mono hb0.size))
      clear d6 hC9 hb hb0 k7 k8 k9 m10 k11
      go_wp2
      go_returns
      exact ⟨rfl, hP.out⟩
end Go.Proofs.YtpaldgajkhmhbaaDoor

namespace Go.Proofs.YtpaldgajkhmhbaaDoor
open Go.RowKit
set_option maxRecDepth 20000 in
set_option maxHeartbeats 4000000 in
theorem adds_long (q1 : Option Addr) (n1 c1 : Nat) (q2 : Option Addr) (n2 c2 : Nat) (q3 : Option Addr) (n3 c3 : Nat) (h : (100 : Int) < n1 ∨ ((n1 : Int) ≤ 100 ∧ (100 : Int) < n2) ∨ ((n1 : Int) ≤ 100 ∧ (n2 : Int) ≤ 100 ∧ (100 : Int) < n3)) (w : World) (hCv : CvP w) : Calls Tryd.prog 6 #[.slice q1 n1 c1, .slice q2 n2 c2, .slice q3 n3 c3] w fun e w' => e = .returned (.bool true) ∧ Below w.heap.size w w' := by
  replace hCv := Lib.hid hCv
  replace h := Lib.hid h
  go_enter Tryd.func6, Tryd.ntmps6
  go_wp2_with fail
  refine (awake4_c w hCv.out).mono ?_
  rintro e w1 ⟨rfl, hb0⟩
  replace hb0 := Lib.hid hb0
  rcases h.out with h1 | ⟨h1, h2⟩ | ⟨h1, h2, h3⟩
  · clear h
    go_wp2
    go_returns
    exact ⟨rfl, hb0.out⟩
  · clear h
    go_wp2
    go_returns
    exact ⟨rfl, hb0.out⟩
  · clear h
    go_wp2
    go_returns
    exact ⟨rfl, hb0.out⟩
theorem adds_any (q1 : Option Addr) (n1 c1 : Nat) (b1 : Nat → Int) (q2 : Option Addr) (n2 c2 : Nat) (b2 : Nat → Int) (q3 : Option Addr) (n3 c3 : Nat) (b3 : Nat → Int) (hr1 : ∀ j, 0 ≤ b1 j ∧ b1 j < 256) (hr2 : ∀ j, 0 ≤ b2 j ∧ b2 j < 256) (hr3 : ∀ j, 0 ≤ b3 j ∧ b3 j < 256) (w : World) (hB1 : BAt w q1 n1 b1) (hB2 : BAt w q2 n2 b2) (hB3 : BAt w q3 n3 b3) (hCv : CvP w) : Calls Tryd.prog 6 #[.slice q1 n1 c1, .slice q2 n2 c2, .slice q3 n3 c3] w fun e w' => e = .returned (.bool true) ∧ Below w.heap.size w w' := by
  by_cases h1 : n1 ≤ 100
  · by_cases h2 : n2 ≤ 100
    · by_cases h3 : n3 ≤ 100
      · exact adds4_c q1 n1 c1 b1 q2 n2 c2 b2 q3 n3 c3 b3 hr1 hr2 hr3 h1 h2 h3 w hB1 hB2 hB3 hCv
      · exact adds_long q1 n1 c1 q2 n2 c2 q3 n3 c3 (by omega) w hCv
    · exact adds_long q1 n1 c1 q2 n2 c2 q3 n3 c3 (by omega) w hCv
  · exact adds_long q1 n1 c1 q2 n2 c2 q3 n3 c3 (by omega) w hCv
end Go.Proofs.YtpaldgajkhmhbaaDoor
namespace Go.Proofs.YtpaldgajkhmhbaaDoor
open Go.ChangeShapes Go.WideShapes Go.ChangeAt Go.WideMaps Go.WideElems Go.RowKit
section
variable {H : Type} {enc : TypeId × Value → H} {W : World}
set_option maxRecDepth 100000 in
/-- an argument of bytes is opened -/
theorem open_bs {base : Nat} {r : Reach} {b0 : Nat} {sp : Nat → Bool} {v : Value} {d : DataW H} {ps : List MemPlace} (hv : Value.okWide Tryd.prog W r b0 22 v) (h : DataW.Trod enc Tryd.prog W base sp true 22 v d ps) :
    ∃ p n c b, v = .slice p n c ∧ (∀ j, 0 ≤ b j ∧ b j < 256) ∧ BAt W p n b := by
  obtain ⟨a1, len, cap, rfl⟩ := okWide_slice bs_underK hv
  obtain ⟨fuel, hf⟩ := h
  rcases open_ints bs_underK u8_under u8_cells hf with ⟨hcs, hx⟩ | ⟨a, len', cap', zs, hcs, _, hl, hm, hz, hx, hcell, hwz⟩
  · simp [Value.cells] at hcs
    obtain ⟨rfl, rfl, rfl⟩ := hcs
    exact ⟨none, 0, 0, fun _ => 0, rfl, fun _ => ⟨Int.le_refl _, show (0 : Int) < 256 by decide⟩, fun h => absurd h (by decide)⟩
  · simp [Value.cells] at hcs
    obtain ⟨rfl, rfl, rfl⟩ := hcs
    have hlz : len ≤ zs.length := by rw [hz]; split <;> omega
    refine ⟨some a, len, cap, fun j => zs.getD j 0, rfl, fun j => by
      have := range_u8 hwz j
      show 0 ≤ zs.getD j 0 ∧ zs.getD j 0 < 256
      rw [List.getD_eq_getElem?_getD]
      omega, fun hpos => ?_⟩
    obtain ⟨ab, ao, spot⟩ := a
    have hc1 := hcell 0 (by omega)
    have hspot : spot = none := by simpa [Addr.add] using World.cell?_spot hc1
    subst hspot
    refine ⟨ab, ao, rfl, ?_, fun j hj => ?_⟩
    · rcases Nat.lt_or_ge ab W.heap.size with h | h
      · exact h
      · rw [add_o] at hc1
        simp only [World.cell?, Array.getElem?_eq_none h] at hc1
        cases hc1
    · have := hcell j (by omega)
      rwa [add_o] at this
end
set_option maxRecDepth 100000 in
theorem edwardsAdds_lifted (os : Os) (started : os.Started) (H : Type) (enc : TypeId × Value → H) :
    ReturnsInHanded {} Tryd.checked os 6 .any (fun w args => (Rows.edwardsAddsSpec.pre enc Tryd.prog Tryd.f6 [] false w args ∧ laidMetH Tryd.prog laidE w) ∧ sizedMet enc Tryd.prog Tryd.f6 (OpenSpec.ofChange Rows.edwardsAddsSpec) false w args)
      (Rows.edwardsAddsSpec.post enc Tryd.prog Tryd.f6 false true false false) := by
  refine returnsInHanded_of_change_and (C := Tryd.checked) (X := fun w _ => laidMetH Tryd.prog laidE w) (fun _ _ _ hh h => h.of_heap hh) own_ started (by kernel_rfl) Tryd.func6
    (ChangeSpec.witness_shaped (enc := enc) (C := Tryd.checked) (os := os) (X := fun w _ => laidMetH Tryd.prog laidE w) false (World.doorLaid Tryd.prog 400 os) #[.slice none 0 0, .slice none 0 0, .slice none 0 0] 8 rfl (World.shaped_of_RefB (by kernel_rfl) (by kernel_rfl)) (by kernel_rfl) (by kernel_rfl) (by kernel_rfl) (door_met os _)) ?_
  intro W base args ds gs before hval0 hW _ _ hL _
  have hval : ∀ (j : Nat) t v, Tryd.f6.params[j]? = some t → args[j]? = some v → Value.okWide Tryd.prog W .any base t v := hval0
  have hW' := hW
  obtain ⟨p, q, hA0, hV, rfl, hfz, hnd⟩ := hW
  have hA : DataW.TrodAll enc Tryd.prog W 0 (fun _ => true) true Tryd.f6.params.toList args.toList ds p := hA0
  rw [Tryd.params6] at hA hval
  obtain ⟨v0, v1, v2, d0, d1, d2, p0, p1, p2', rfl, rfl, rfl, h0, h1, h2⟩ := trodAll_three hA
  obtain ⟨rfl, rfl⟩ := trodVars_none hV
  have hv0 := hval 0 22 v0 rfl rfl
  have hv1 := hval 1 22 v1 rfl rfl
  have hv2 := hval 2 22 v2 rfl rfl
  clear hA0 hval0
  simp only [List.append_nil] at hW'
  have hCv := of_laid hL
  have hlt : ∀ x ∈ p0 ++ p1 ++ p2', x.block < W.heap.size := fun x hx => hW'.lt x hx
  obtain ⟨q1, n1, c1, b1, rfl, hr1, hB1⟩ := open_bs hv0 h0
  obtain ⟨q2, n2, c2, b2, rfl, hr2, hB2⟩ := open_bs hv1 h1
  obtain ⟨q3, n3, c3, b3, rfl, hr3, hB3⟩ := open_bs hv2 h2
  clear hv0 hv1 hv2
  refine (adds_any q1 n1 c1 b1 q2 n2 c2 b2 q3 n3 c3 b3 hr1 hr2 hr3 W hB1 hB2 hB3 hCv).mono fun e W' ⟨he, hb⟩ => ?_
  subst he
  exact ⟨_, rfl, post_of_below (pa := p0 ++ p1 ++ p2') (pv := []) hW' (fun _ _ _ => trodAll_mk1 (shut_bool bool_under true))
    (fun sp hsp => ⟨p0, p1 ++ p2', WideElems.Trod_stays (by kernel_rfl) (by kernel_rfl) (of_decide_eq_true (by kernel_rfl)) h0 (fun x hx => hb.same (hlt x (by simp [hx]))) (fun x hx => hsp x (by simp [hx])),
      ⟨p1, p2', WideElems.Trod_stays (by kernel_rfl) (by kernel_rfl) (of_decide_eq_true (by kernel_rfl)) h1 (fun x hx => hb.same (hlt x (by simp [hx]))) (fun x hx => hsp x (by simp [hx])),
        ⟨p2', [], WideElems.Trod_stays (by kernel_rfl) (by kernel_rfl) (of_decide_eq_true (by kernel_rfl)) h2 (fun x hx => hb.same (hlt x (by simp [hx]))) (fun x hx => hsp x (by simp [hx])), rfl, by simp⟩, rfl⟩, by simp⟩)
    (fun _ _ => rfl) (by simp) hb
    (ok_one (by kernel_rfl) rfl (okWide_bool_mk bool_under true))⟩
theorem edwardsAdds_row : Rows.EdwardsAddsSaid :=
  OpenClaim.holds_of_wide 6 Tryd.f6 rfl rfl rfl rfl rfl rfl rfl ⟨rfl, rfl, rfl, rfl, rfl⟩ rfl rfl rfl rfl rfl (by kernel_rfl) Tryd.func6 (by kernel_rfl)
    (of_decide_eq_true (by kernel_rfl)) (by unfold Func.isWrapper; first | (rw [if_pos (by decide +kernel)]; kernel_rfl) | (rw [if_neg (by decide +kernel)]; exact ⟨rfl, rfl⟩))
    (fun os started H enc _ => edwardsAdds_lifted os started H enc)
theorem edwardsAdds_holds : Rows.EdwardsAddsCardSaid :=
  Claim7.holds_tied_plain_at .later [] [.data, .data] true (true, "6e129b5b755843fca1c9938d877822f84d8e150055241bfa7f0a4cfcf7dc7d77") false
    edwardsAdds_row (fun _ h => by cases h) (by kernel_rfl) (fun _ h => by cases h) edwardsAdds_row_tie rfl ⟨rfl, rfl⟩ (by kernel_rfl) rfl
    (fun f fn hf hfn => by
      obtain rfl : f = 6 := Option.some.inj ((show Tryd.prog.funcNamed "buttress/buttresslaw04.EdwardsAdds" = some 6 by kernel_rfl).symm.trans hf) |>.symm
      obtain rfl : fn = Tryd.f6 := (Option.some.inj (Tryd.func6.symm.trans hfn)).symm
      exact ⟨by kernel_rfl, fun j t ht => by
        rw [Tryd.params6] at ht
        have hm : t ∈ [22] := by simpa using Array.mem_of_getElem? ht
        have hall : ([22].all fun u => !Tryd.prog.wantsStandIn u) = true := by kernel_rfl
        exact (show Tryd.prog.wantsStandIn t = false by simpa using List.all_eq_true.1 hall t hm)⟩)
    (by kernel_rfl)
end Go.Proofs.YtpaldgajkhmhbaaDoor
