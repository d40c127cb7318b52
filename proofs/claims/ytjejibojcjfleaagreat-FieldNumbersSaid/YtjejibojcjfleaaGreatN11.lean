/- The law FieldReckons, walked. -/
import Derived.Test.YtjejibojcjfleaaGreatN10
import Derived.Test.YtjejibojcjfleaaGreatAw
namespace Go.Proofs.YtjejibojcjfleaaGreat
open Go.RowKit
def rk2FL (a : Fe.E) (b : Fe.E) (s : Fe.E) (d : Fe.E) (m : Fe.E) (bm : Nat → Int) : List (Value → World → Prop) := [
  Eq1 (.agg (ev a)),
  Eq1 (.agg (ev b)),
  Eq1 (.agg (ev s)),
  Eq1 (.agg (ev a)),
  Eq1 (.agg (ev b)),
  Eq1 (.agg (ev d)),
  Eq1 (.agg (ev m)),
  SlB bm]
theorem rk2FS (a : Fe.E) (b : Fe.E) (s : Fe.E) (d : Fe.E) (m : Fe.E) (bm : Nat → Int) : ∀ j x' q q', (rk2FL a b s d m bm).getD j (fun _ _ => True) x' q → Below q.heap.size q q' → (rk2FL a b s d m bm).getD j (fun _ _ => True) x' q' := by
  refine sta_all _ ?_
  simp only [rk2FL, List.mem_cons, forall_eq_or_imp, List.not_mem_nil, false_implies, implies_true, and_true]
  exact ⟨sta_eq _, sta_eq _, sta_eq _, sta_eq _, sta_eq _, sta_eq _, sta_eq _, sta_sl _⟩
def rk3FL (a : Fe.E) (b : Fe.E) (n : Fe.E) (sq : Fe.E) (z : Bool) : List (Value → World → Prop) := [
  Eq1 (.agg (ev a)),
  Eq1 (.agg (ev n)),
  Eq1 (.agg (ev b)),
  Eq1 (.agg (ev sq)),
  Eq1 (.bool z)]
theorem rk3FS (a : Fe.E) (b : Fe.E) (n : Fe.E) (sq : Fe.E) (z : Bool) : ∀ j x' q q', (rk3FL a b n sq z).getD j (fun _ _ => True) x' q → Below q.heap.size q q' → (rk3FL a b n sq z).getD j (fun _ _ => True) x' q' := by
  refine sta_all _ ?_
  simp only [rk3FL, List.mem_cons, forall_eq_or_imp, List.not_mem_nil, false_implies, implies_true, and_true]
  exact ⟨sta_eq _, sta_eq _, sta_eq _, sta_eq _, sta_eq _⟩
def rk2TL (a : Fe.E) (b : Fe.E) (s : Fe.E) (d : Fe.E) (m : Fe.E) (bm : Nat → Int) : List (Value → World → Prop) := [
  Eq1 (.agg (ev a)),
  Eq1 (.agg (ev b)),
  Eq1 (.agg (ev s)),
  Eq1 (.agg (ev a)),
  Eq1 (.agg (ev b)),
  Eq1 (.agg (ev d)),
  Eq1 (.agg (ev m)),
  SlB bm]
theorem rk2TS (a : Fe.E) (b : Fe.E) (s : Fe.E) (d : Fe.E) (m : Fe.E) (bm : Nat → Int) : ∀ j x' q q', (rk2TL a b s d m bm).getD j (fun _ _ => True) x' q → Below q.heap.size q q' → (rk2TL a b s d m bm).getD j (fun _ _ => True) x' q' := by
  refine sta_all _ ?_
  simp only [rk2TL, List.mem_cons, forall_eq_or_imp, List.not_mem_nil, false_implies, implies_true, and_true]
  exact ⟨sta_eq _, sta_eq _, sta_eq _, sta_eq _, sta_eq _, sta_eq _, sta_eq _, sta_sl _⟩
def rk3TL (a : Fe.E) (b : Fe.E) (n : Fe.E) (sq : Fe.E) (z : Bool) : List (Value → World → Prop) := [
  Eq1 (.agg (ev a)),
  Eq1 (.agg (ev n)),
  Eq1 (.agg (ev b)),
  Eq1 (.agg (ev sq)),
  Eq1 (.bool z)]
theorem rk3TS (a : Fe.E) (b : Fe.E) (n : Fe.E) (sq : Fe.E) (z : Bool) : ∀ j x' q q', (rk3TL a b n sq z).getD j (fun _ _ => True) x' q → Below q.heap.size q q' → (rk3TL a b n sq z).getD j (fun _ _ => True) x' q' := by
  refine sta_all _ ?_
  simp only [rk3TL, List.mem_cons, forall_eq_or_imp, List.not_mem_nil, false_implies, implies_true, and_true]
  exact ⟨sta_eq _, sta_eq _, sta_eq _, sta_eq _, sta_eq _⟩
set_option maxRecDepth 20000 in
set_option maxHeartbeats 8000000 in
set_option maxRecDepth 100000 in
theorem reckons_n (a b s d m n sq : Fe.E) (bm : Nat → Int) (z ra rb : Bool) (hr : (ra && rb) = false)
    (cra : ∀ w, Calls Tryz.prog 28 #[.agg (ev a)] w (PostV (.bool ra) w))
    (crb : ∀ w, Calls Tryz.prog 28 #[.agg (ev b)] w (PostV (.bool rb) w))
    (cs : ∀ w, Calls Tryz.prog 34 #[.agg (ev a), .agg (ev b)] w (PostE s w))
    (cd : ∀ w, Calls Tryz.prog 35 #[.agg (ev a), .agg (ev b)] w (PostE d w))
    (cm : ∀ w, Calls Tryz.prog 33 #[.agg (ev s), .agg (ev d)] w (PostE m w))
    (cp : ∀ w, Calls Tryz.prog 12 #[.agg (ev m)] w (PostB bm w))
    (cn : ∀ w, Calls Tryz.prog 19 #[.agg (ev a)] w (PostE n w))
    (cq : ∀ w, Calls Tryz.prog 36 #[.agg (ev b)] w (PostE sq w))
    (csm : ∀ w, Calls Tryz.prog 21 #[.agg (ev n), .agg (ev sq)] w (PostV (.bool z) w))
    (w : World) : Calls Tryz.prog 14 #[.agg (ev a), .agg (ev b)] w (PostV (.bool true) w) := by
  have hr' : ra = true → rb = false := fun h => by subst h; exact hr
  clear hr
  replace cra := Lib.hid cra
  replace crb := Lib.hid crb
  replace cs := Lib.hid cs
  replace cd := Lib.hid cd
  replace cm := Lib.hid cm
  replace cp := Lib.hid cp
  replace cn := Lib.hid cn
  replace cq := Lib.hid cq
  replace csm := Lib.hid csm
  go_enter Tryz.func14, Tryz.ntmps14
  go_wp2_with (refine ldE rfl rfl rfl (e := a) ((Blk.new _ _ _).alloc _) ?_)
  refine calls_at (fun W0 hW => ?_)
  have hA : Blk W0 (w.heap.size) 27 (ev a) := by rw [hW]; exact (Blk.new _ _ _).alloc _
  have hB : Blk W0 (w.heap.size + 1) 27 (ev b) := by rw [hW]; exact blk_at (by simp) (Blk.new _ _ _)
  have hb0 : Below w.heap.size w W0 := by rw [hW]; go_grown
  clear hW
  refine (cra.out _).mono ?_
  rintro e1 w1 ⟨rfl, hbx⟩
  replace hA := hA.below hbx
  replace hB := hB.below hbx
  replace hb0 := hb0.trans (hbx.mono hb0.size)
  clear hbx
  cases ra
  · go_wp2
    refine wp_region_grow2 8 (fun k => (Nat.ble 16 k && Nat.ble k 23)) _ [] (fun j x' q => (rk2FL a b s d m bm).getD j (fun _ _ => True) x' q) (fun _ => false) (fun f => #[.agg (ev a), .agg (ev b), .pointer (some ⟨w.heap.size, 0, none⟩), .pointer (some ⟨w.heap.size + 1, 0, none⟩), .bool false, undef, undef, undef, .agg (ev a), .bool false, .bool true, .bool true, undef, undef, undef, .bool true, f 16, f 17, f 18, f 19, f 20, f 21, f 22, f 23, undef, undef, undef, undef, undef, undef, undef, undef, undef, undef, undef, undef, undef, undef, undef, undef, undef, undef, undef, undef, undef, undef, undef, undef, undef, undef, undef, undef, undef, undef, undef, undef, undef, undef, undef, undef, undef, undef, undef, undef, undef, undef, undef, undef, undef, undef, undef, undef, undef, undef, undef, undef, undef, undef, undef, undef, undef, undef, undef, undef, undef, undef, undef, undef, undef, undef, undef, undef, undef, undef, undef, undef, undef, undef, undef, undef, undef, undef, undef, undef, undef, undef, undef, undef, undef, undef]) (fun f => rfl) (by kernel_rfl) (by kernel_rfl) (by kernel_rfl) (by kernel_rfl) (by kernel_rfl) (rk2FS _ _ _ _ _ _) (fun _ _ _ h => by cases h) ?_ ?_
    · refine steps2_cons ?_ ?_
      · as_aux_lemma =>
        intro f w1 hb hd Q hK
        clear hd
        have hK := Lib.hid hK
        refine ldE rfl rfl rfl (hA.below hb) ?_
        go_wp2
        exact hK.out _ _ rfl (Below.refl _ _) (fun h => by cases h)
      refine steps2_cons ?_ ?_
      · as_aux_lemma =>
        intro f w1 hb hd Q hK
        clear hd
        have hK := Lib.hid hK
        refine ldE rfl rfl rfl (hB.below hb) ?_
        go_wp2
        exact hK.out _ _ rfl (Below.refl _ _) (fun h => by cases h)
      refine steps2_cons ?_ ?_
      · as_aux_lemma =>
        intro f w1 hb hd Q hK
        have e16 : f 16 = .agg (ev a) := hd.1 rfl
        have e17 : f 17 = .agg (ev b) := hd.2.1 rfl
        clear hd
        simp only [e16, e17] at hK
        have hK := Lib.hid hK
        go_wp2_with fail
        refine (cs.out _).mono ?_
        rintro e w2 ⟨rfl, hb2⟩
        go_wp2
        exact hK.out _ _ rfl hb2 (fun h => by cases h)
      refine steps2_cons ?_ ?_
      · as_aux_lemma =>
        intro f w1 hb hd Q hK
        clear hd
        have hK := Lib.hid hK
        refine ldE rfl rfl rfl (hA.below hb) ?_
        go_wp2
        exact hK.out _ _ rfl (Below.refl _ _) (fun h => by cases h)
      refine steps2_cons ?_ ?_
      · as_aux_lemma =>
        intro f w1 hb hd Q hK
        clear hd
        have hK := Lib.hid hK
        refine ldE rfl rfl rfl (hB.below hb) ?_
        go_wp2
        exact hK.out _ _ rfl (Below.refl _ _) (fun h => by cases h)
      refine steps2_cons ?_ ?_
      · as_aux_lemma =>
        intro f w1 hb hd Q hK
        have e19 : f 19 = .agg (ev a) := hd.1 rfl
        have e20 : f 20 = .agg (ev b) := hd.2.1 rfl
        clear hd
        simp only [e19, e20] at hK
        have hK := Lib.hid hK
        go_wp2_with fail
        refine (cd.out _).mono ?_
        rintro e w2 ⟨rfl, hb2⟩
        go_wp2
        exact hK.out _ _ rfl hb2 (fun h => by cases h)
      refine steps2_cons ?_ ?_
      · as_aux_lemma =>
        intro f w1 hb hd Q hK
        have e18 : f 18 = .agg (ev s) := hd.1 rfl
        have e21 : f 21 = .agg (ev d) := hd.2.1 rfl
        clear hd
        simp only [e18, e21] at hK
        have hK := Lib.hid hK
        go_wp2_with fail
        refine (cm.out _).mono ?_
        rintro e w2 ⟨rfl, hb2⟩
        go_wp2
        exact hK.out _ _ rfl hb2 (fun h => by cases h)
      refine steps2_cons ?_ ?_
      · as_aux_lemma =>
        intro f w1 hb hd Q hK
        have e22 : f 22 = .agg (ev m) := hd.1 rfl
        clear hd
        simp only [e22] at hK
        have hK := Lib.hid hK
        go_wp2_with fail
        refine (cp.out _).mono ?_
        rintro e w2 ⟨g, -, rfl, hG, hb2⟩
        go_wp2
        exact hK.out _ _ ⟨g, rfl, hG⟩ hb2 (fun h => by cases h)
      trivial
    · intro f2 y2 hb hf hne
      refine wpList_nil ?_
      clear hf hne
      replace hA := hA.below hb
      replace hB := hB.below hb
      replace hb0 := hb0.trans (hb.mono hb0.size)
      clear hb
      go_wp2
      refine wp_region_grow2 5 (fun k => (Nat.ble 24 k && Nat.ble k 28)) _ [] (fun j x' q => (rk3FL a b n sq z).getD j (fun _ _ => True) x' q) (fun _ => false) (fun f => #[.agg (ev a), .agg (ev b), .pointer (some ⟨w.heap.size, 0, none⟩), .pointer (some ⟨w.heap.size + 1, 0, none⟩), .bool false, undef, undef, undef, .agg (ev a), .bool false, .bool true, .bool true, undef, undef, undef, .bool true, f2 16, f2 17, f2 18, f2 19, f2 20, f2 21, f2 22, f2 23, f 24, f 25, f 26, f 27, f 28, undef, undef, undef, undef, undef, undef, undef, undef, undef, undef, undef, undef, undef, undef, undef, undef, undef, undef, undef, undef, undef, undef, undef, undef, undef, undef, undef, undef, undef, undef, undef, undef, undef, undef, undef, undef, undef, undef, undef, undef, undef, undef, undef, undef, undef, undef, undef, undef, undef, undef, undef, undef, undef, undef, undef, undef, undef, undef, undef, undef, undef, undef, undef, undef, undef, undef, undef, undef, undef, undef, undef, undef, undef, undef, undef, undef, undef, undef, undef, undef, undef]) (fun f => rfl) (by kernel_rfl) (by kernel_rfl) (by kernel_rfl) (by kernel_rfl) (by kernel_rfl) (rk3FS _ _ _ _ _) (fun _ _ _ h => by cases h) ?_ ?_
      · refine steps2_cons ?_ ?_
        · as_aux_lemma =>
          intro f w1 hb hd Q hK
          clear hd
          have hK := Lib.hid hK
          refine ldE rfl rfl rfl (hA.below hb) ?_
          go_wp2
          exact hK.out _ _ rfl (Below.refl _ _) (fun h => by cases h)
        refine steps2_cons ?_ ?_
        · as_aux_lemma =>
          intro f w1 hb hd Q hK
          have e24 : f 24 = .agg (ev a) := hd.1 rfl
          clear hd
          simp only [e24] at hK
          have hK := Lib.hid hK
          go_wp2_with fail
          refine (cn.out _).mono ?_
          rintro e w2 ⟨rfl, hb2⟩
          go_wp2
          exact hK.out _ _ rfl hb2 (fun h => by cases h)
        refine steps2_cons ?_ ?_
        · as_aux_lemma =>
          intro f w1 hb hd Q hK
          clear hd
          have hK := Lib.hid hK
          refine ldE rfl rfl rfl (hB.below hb) ?_
          go_wp2
          exact hK.out _ _ rfl (Below.refl _ _) (fun h => by cases h)
        refine steps2_cons ?_ ?_
        · as_aux_lemma =>
          intro f w1 hb hd Q hK
          have e26 : f 26 = .agg (ev b) := hd.1 rfl
          clear hd
          simp only [e26] at hK
          have hK := Lib.hid hK
          go_wp2_with fail
          refine (cq.out _).mono ?_
          rintro e w2 ⟨rfl, hb2⟩
          go_wp2
          exact hK.out _ _ rfl hb2 (fun h => by cases h)
        refine steps2_cons ?_ ?_
        · as_aux_lemma =>
          intro f w1 hb hd Q hK
          have e25 : f 25 = .agg (ev n) := hd.1 rfl
          have e27 : f 27 = .agg (ev sq) := hd.2.1 rfl
          clear hd
          simp only [e25, e27] at hK
          have hK := Lib.hid hK
          go_wp2_with fail
          refine (csm.out _).mono ?_
          rintro e w2 ⟨rfl, hb2⟩
          go_wp2
          exact hK.out _ _ rfl hb2 (fun h => by cases h)
        trivial
      · intro f3 y3 hb hf hne
        refine wpList_nil ?_
        clear hf hne
        replace hb0 := hb0.trans (hb.mono hb0.size)
        clear hb
        go_wp2_with fail
        refine (awake_c _).mono ?_
        rintro e1 w9 ⟨rfl, hbx⟩
        replace hb0 := hb0.trans (hbx.mono hb0.size)
        go_wp2
        go_returns
        exact ⟨rfl, hb0⟩
  · have hrb := hr' rfl
    subst hrb
    obtain ⟨q0, q1, q2, q3, q4⟩ := blk5 hB
    go_wp2_with fail
    clear q0 q1 q2 q3 q4
    refine (crb.out _).mono ?_
    rintro e1 w2 ⟨rfl, hbx⟩
    replace hA := hA.below hbx
    replace hB := hB.below hbx
    replace hb0 := hb0.trans (hbx.mono hb0.size)
    clear hbx
    go_wp2
    refine wp_region_grow2 8 (fun k => (Nat.ble 16 k && Nat.ble k 23)) _ [] (fun j x' q => (rk2TL a b s d m bm).getD j (fun _ _ => True) x' q) (fun _ => false) (fun f => #[.agg (ev a), .agg (ev b), .pointer (some ⟨w.heap.size, 0, none⟩), .pointer (some ⟨w.heap.size + 1, 0, none⟩), .bool false, undef, undef, undef, .agg (ev a), .bool true, .bool false, .bool false, .agg (ev b), .bool false, .bool true, .bool true, f 16, f 17, f 18, f 19, f 20, f 21, f 22, f 23, undef, undef, undef, undef, undef, undef, undef, undef, undef, undef, undef, undef, undef, undef, undef, undef, undef, undef, undef, undef, undef, undef, undef, undef, undef, undef, undef, undef, undef, undef, undef, undef, undef, undef, undef, undef, undef, undef, undef, undef, undef, undef, undef, undef, undef, undef, undef, undef, undef, undef, undef, undef, undef, undef, undef, undef, undef, undef, undef, undef, undef, undef, undef, undef, undef, undef, undef, undef, undef, undef, undef, undef, undef, undef, undef, undef, undef, undef, undef, undef, undef, undef, undef, undef, undef, undef]) (fun f => rfl) (by kernel_rfl) (by kernel_rfl) (by kernel_rfl) (by kernel_rfl) (by kernel_rfl) (rk2TS _ _ _ _ _ _) (fun _ _ _ h => by cases h) ?_ ?_
    · refine steps2_cons ?_ ?_
      · as_aux_lemma =>
        intro f w1 hb hd Q hK
        clear hd
        have hK := Lib.hid hK
        refine ldE rfl rfl rfl (hA.below hb) ?_
        go_wp2
        exact hK.out _ _ rfl (Below.refl _ _) (fun h => by cases h)
      refine steps2_cons ?_ ?_
      · as_aux_lemma =>
        intro f w1 hb hd Q hK
        clear hd
        have hK := Lib.hid hK
        refine ldE rfl rfl rfl (hB.below hb) ?_
        go_wp2
        exact hK.out _ _ rfl (Below.refl _ _) (fun h => by cases h)
      refine steps2_cons ?_ ?_
      · as_aux_lemma =>
        intro f w1 hb hd Q hK
        have e16 : f 16 = .agg (ev a) := hd.1 rfl
        have e17 : f 17 = .agg (ev b) := hd.2.1 rfl
        clear hd
        simp only [e16, e17] at hK
        have hK := Lib.hid hK
        go_wp2_with fail
        refine (cs.out _).mono ?_
        rintro e w2 ⟨rfl, hb2⟩
        go_wp2
        exact hK.out _ _ rfl hb2 (fun h => by cases h)
      refine steps2_cons ?_ ?_
      · as_aux_lemma =>
        intro f w1 hb hd Q hK
        clear hd
        have hK := Lib.hid hK
        refine ldE rfl rfl rfl (hA.below hb) ?_
        go_wp2
        exact hK.out _ _ rfl (Below.refl _ _) (fun h => by cases h)
      refine steps2_cons ?_ ?_
      · as_aux_lemma =>
        intro f w1 hb hd Q hK
        clear hd
        have hK := Lib.hid hK
        refine ldE rfl rfl rfl (hB.below hb) ?_
        go_wp2
        exact hK.out _ _ rfl (Below.refl _ _) (fun h => by cases h)
      refine steps2_cons ?_ ?_
      · as_aux_lemma =>
        intro f w1 hb hd Q hK
        have e19 : f 19 = .agg (ev a) := hd.1 rfl
        have e20 : f 20 = .agg (ev b) := hd.2.1 rfl
        clear hd
        simp only [e19, e20] at hK
        have hK := Lib.hid hK
        go_wp2_with fail
        refine (cd.out _).mono ?_
        rintro e w2 ⟨rfl, hb2⟩
        go_wp2
        exact hK.out _ _ rfl hb2 (fun h => by cases h)
      refine steps2_cons ?_ ?_
      · as_aux_lemma =>
        intro f w1 hb hd Q hK
        have e18 : f 18 = .agg (ev s) := hd.1 rfl
        have e21 : f 21 = .agg (ev d) := hd.2.1 rfl
        clear hd
        simp only [e18, e21] at hK
        have hK := Lib.hid hK
        go_wp2_with fail
        refine (cm.out _).mono ?_
        rintro e w2 ⟨rfl, hb2⟩
        go_wp2
        exact hK.out _ _ rfl hb2 (fun h => by cases h)
      refine steps2_cons ?_ ?_
      · as_aux_lemma =>
        intro f w1 hb hd Q hK
        have e22 : f 22 = .agg (ev m) := hd.1 rfl
        clear hd
        simp only [e22] at hK
        have hK := Lib.hid hK
        go_wp2_with fail
        refine (cp.out _).mono ?_
        rintro e w2 ⟨g, -, rfl, hG, hb2⟩
        go_wp2
        exact hK.out _ _ ⟨g, rfl, hG⟩ hb2 (fun h => by cases h)
      trivial
    · intro f2 y2 hb hf hne
      refine wpList_nil ?_
      clear hf hne
      replace hA := hA.below hb
      replace hB := hB.below hb
      replace hb0 := hb0.trans (hb.mono hb0.size)
      clear hb
      go_wp2
      refine wp_region_grow2 5 (fun k => (Nat.ble 24 k && Nat.ble k 28)) _ [] (fun j x' q => (rk3TL a b n sq z).getD j (fun _ _ => True) x' q) (fun _ => false) (fun f => #[.agg (ev a), .agg (ev b), .pointer (some ⟨w.heap.size, 0, none⟩), .pointer (some ⟨w.heap.size + 1, 0, none⟩), .bool false, undef, undef, undef, .agg (ev a), .bool true, .bool false, .bool false, .agg (ev b), .bool false, .bool true, .bool true, f2 16, f2 17, f2 18, f2 19, f2 20, f2 21, f2 22, f2 23, f 24, f 25, f 26, f 27, f 28, undef, undef, undef, undef, undef, undef, undef, undef, undef, undef, undef, undef, undef, undef, undef, undef, undef, undef, undef, undef, undef, undef, undef, undef, undef, undef, undef, undef, undef, undef, undef, undef, undef, undef, undef, undef, undef, undef, undef, undef, undef, undef, undef, undef, undef, undef, undef, undef, undef, undef, undef, undef, undef, undef, undef, undef, undef, undef, undef, undef, undef, undef, undef, undef, undef, undef, undef, undef, undef, undef, undef, undef, undef, undef, undef, undef, undef, undef, undef, undef, undef]) (fun f => rfl) (by kernel_rfl) (by kernel_rfl) (by kernel_rfl) (by kernel_rfl) (by kernel_rfl) (rk3TS _ _ _ _ _) (fun _ _ _ h => by cases h) ?_ ?_
      · refine steps2_cons ?_ ?_
        · as_aux_lemma =>
          intro f w1 hb hd Q hK
          clear hd
          have hK := Lib.hid hK
          refine ldE rfl rfl rfl (hA.below hb) ?_
          go_wp2
          exact hK.out _ _ rfl (Below.refl _ _) (fun h => by cases h)
        refine steps2_cons ?_ ?_
        · as_aux_lemma =>
          intro f w1 hb hd Q hK
          have e24 : f 24 = .agg (ev a) := hd.1 rfl
          clear hd
          simp only [e24] at hK
          have hK := Lib.hid hK
          go_wp2_with fail
          refine (cn.out _).mono ?_
          rintro e w2 ⟨rfl, hb2⟩
          go_wp2
          exact hK.out _ _ rfl hb2 (fun h => by cases h)
        refine steps2_cons ?_ ?_
        · as_aux_lemma =>
          intro f w1 hb hd Q hK
          clear hd
          have hK := Lib.hid hK
          refine ldE rfl rfl rfl (hB.below hb) ?_
          go_wp2
          exact hK.out _ _ rfl (Below.refl _ _) (fun h => by cases h)
        refine steps2_cons ?_ ?_
        · as_aux_lemma =>
          intro f w1 hb hd Q hK
          have e26 : f 26 = .agg (ev b) := hd.1 rfl
          clear hd
          simp only [e26] at hK
          have hK := Lib.hid hK
          go_wp2_with fail
          refine (cq.out _).mono ?_
          rintro e w2 ⟨rfl, hb2⟩
          go_wp2
          exact hK.out _ _ rfl hb2 (fun h => by cases h)
        refine steps2_cons ?_ ?_
        · as_aux_lemma =>
          intro f w1 hb hd Q hK
          have e25 : f 25 = .agg (ev n) := hd.1 rfl
          have e27 : f 27 = .agg (ev sq) := hd.2.1 rfl
          clear hd
          simp only [e25, e27] at hK
          have hK := Lib.hid hK
          go_wp2_with fail
          refine (csm.out _).mono ?_
          rintro e w2 ⟨rfl, hb2⟩
          go_wp2
          exact hK.out _ _ rfl hb2 (fun h => by cases h)
        trivial
      · intro f3 y3 hb hf hne
        refine wpList_nil ?_
        clear hf hne
        replace hb0 := hb0.trans (hb.mono hb0.size)
        clear hb
        go_wp2_with fail
        refine (awake_c _).mono ?_
        rintro e1 w9 ⟨rfl, hbx⟩
        replace hb0 := hb0.trans (hbx.mono hb0.size)
        go_wp2
        go_returns
        exact ⟨rfl, hb0⟩
def rk5L (a : Fe.E) (b : Fe.E) (A : Nat → Int) (B : Nat → Int) (B0 : Nat) : List (Value → World → Prop) := [
  Eq1 (.agg (ev a)),
  Eq1 (.agg (av A)),
  Eq1 (.agg (ev b)),
  Eq1 (.agg (av B)),
  NewB B0 31 #[.int .u64 0, .int .u64 0, .int .u64 0, .int .u64 0, .int .u64 0, .int .u64 0, .int .u64 0, .int .u64 0, .int .u64 0, .int .u64 0, .int .u64 0, .int .u64 0, .int .u64 0, .int .u64 0, .int .u64 0, .int .u64 0],
  NewB B0 31 #[.int .u64 0, .int .u64 0, .int .u64 0, .int .u64 0, .int .u64 0, .int .u64 0, .int .u64 0, .int .u64 0, .int .u64 0, .int .u64 0, .int .u64 0, .int .u64 0, .int .u64 0, .int .u64 0, .int .u64 0, .int .u64 0]]
theorem rk5S (a : Fe.E) (b : Fe.E) (A : Nat → Int) (B : Nat → Int) (B0 : Nat) : ∀ j x' q q', (rk5L a b A B B0).getD j (fun _ _ => True) x' q → Below q.heap.size q q' → (rk5L a b A B B0).getD j (fun _ _ => True) x' q' := by
  refine sta_all _ ?_
  simp only [rk5L, List.mem_cons, forall_eq_or_imp, List.not_mem_nil, false_implies, implies_true, and_true]
  exact ⟨sta_eq _, sta_eq _, sta_eq _, sta_eq _, sta_new _ _ _, sta_new _ _ _⟩
theorem rk5O (a : Fe.E) (b : Fe.E) (A : Nat → Int) (B : Nat → Int) (B0 : Nat) : ∀ j x' q, (fun j => j == 4 || j == 5) j = true → (rk5L a b A B B0).getD j (fun _ _ => True) x' q → ∀ g, x' = .pointer (some ⟨g, 0, none⟩) → g < q.heap.size := by
  intro j x' q hj hv g e
  have hj' : j = 4 ∨ j = 5 := by simpa using hj
  rcases hj' with rfl | rfl
  all_goals exact new_lt hv e
def rk7L (a : Fe.E) (b : Fe.E) (s : Fe.E) (d : Fe.E) (m : Fe.E) (A : Nat → Int) (B : Nat → Int) (Ns : Nat → Int) (Nd : Nat → Int) (Nm : Nat → Int) : List (Value → World → Prop) := [
  Eq1 (.agg (ev a)),
  Eq1 (.agg (ev b)),
  Eq1 (.agg (ev s)),
  Eq1 (.agg (av A)),
  Eq1 (.agg (av B)),
  Eq1 (.agg (av Ns)),
  Eq1 (.bool true),
  Eq1 (.bool false),
  Eq1 (.bool false),
  Eq1 (.agg (ev a)),
  Eq1 (.agg (ev b)),
  Eq1 (.agg (ev d)),
  Eq1 (.agg (av A)),
  Eq1 (.agg (av B)),
  Eq1 (.agg (av Nd)),
  Eq1 (.bool true),
  Eq1 (.bool false),
  Eq1 (.bool false),
  Eq1 (.bool false),
  Eq1 (.agg (ev a)),
  Eq1 (.agg (ev b)),
  Eq1 (.agg (ev m)),
  Eq1 (.agg (av A)),
  Eq1 (.agg (av B)),
  Eq1 (.agg (av Nm)),
  Eq1 (.bool true),
  Eq1 (.bool false),
  Eq1 (.bool false)]
theorem rk7S (a : Fe.E) (b : Fe.E) (s : Fe.E) (d : Fe.E) (m : Fe.E) (A : Nat → Int) (B : Nat → Int) (Ns : Nat → Int) (Nd : Nat → Int) (Nm : Nat → Int) : ∀ j x' q q', (rk7L a b s d m A B Ns Nd Nm).getD j (fun _ _ => True) x' q → Below q.heap.size q q' → (rk7L a b s d m A B Ns Nd Nm).getD j (fun _ _ => True) x' q' := by
  refine sta_all _ ?_
  simp only [rk7L, List.mem_cons, forall_eq_or_imp, List.not_mem_nil, false_implies, implies_true, and_true]
  exact ⟨sta_eq _, sta_eq _, sta_eq _, sta_eq _, sta_eq _, sta_eq _, sta_eq _, sta_eq _, sta_eq _, sta_eq _, sta_eq _, sta_eq _, sta_eq _, sta_eq _, sta_eq _, sta_eq _, sta_eq _, sta_eq _, sta_eq _, sta_eq _, sta_eq _, sta_eq _, sta_eq _, sta_eq _, sta_eq _, sta_eq _, sta_eq _, sta_eq _⟩
def rk9L (a : Fe.E) (n : Fe.E) (sq : Fe.E) (A : Nat → Int) (Nn : Nat → Int) (Nq : Nat → Int) (N1 : Nat → Int) : List (Value → World → Prop) := [
  Eq1 (.agg (ev a)),
  Eq1 (.agg (ev n)),
  Eq1 (.agg (av (fun _ => 0))),
  Eq1 (.agg (av A)),
  Eq1 (.agg (av Nn)),
  Eq1 (.bool true),
  Eq1 (.bool false),
  Eq1 (.bool false),
  Eq1 (.agg (ev a)),
  Eq1 (.agg (ev sq)),
  Eq1 (.agg (av A)),
  Eq1 (.agg (av A)),
  Eq1 (.agg (av Nq)),
  Eq1 (.bool true),
  Eq1 (.bool false),
  Eq1 (.bool false),
  Eq1 (.bool false),
  Eq1 (.agg (ev ⟨1, 0, 0, 0, 0⟩)),
  Eq1 (.agg (av N1)),
  Eq1 (.bool true),
  Eq1 (.bool false),
  Eq1 (.bool false)]
theorem rk9S (a : Fe.E) (n : Fe.E) (sq : Fe.E) (A : Nat → Int) (Nn : Nat → Int) (Nq : Nat → Int) (N1 : Nat → Int) : ∀ j x' q q', (rk9L a n sq A Nn Nq N1).getD j (fun _ _ => True) x' q → Below q.heap.size q q' → (rk9L a n sq A Nn Nq N1).getD j (fun _ _ => True) x' q' := by
  refine sta_all _ ?_
  simp only [rk9L, List.mem_cons, forall_eq_or_imp, List.not_mem_nil, false_implies, implies_true, and_true]
  exact ⟨sta_eq _, sta_eq _, sta_eq _, sta_eq _, sta_eq _, sta_eq _, sta_eq _, sta_eq _, sta_eq _, sta_eq _, sta_eq _, sta_eq _, sta_eq _, sta_eq _, sta_eq _, sta_eq _, sta_eq _, sta_eq _, sta_eq _, sta_eq _, sta_eq _, sta_eq _⟩
def rk11L (a : Fe.E) (b : Fe.E) (A : Nat → Int) (B : Nat → Int) (p : Bool) (z : Bool) (o : Bool) : List (Value → World → Prop) := [
  Eq1 (.agg (ev a)),
  Eq1 (.agg (ev b)),
  Eq1 (.bool p),
  Eq1 (.agg (av A)),
  Eq1 (.agg (av B)),
  Eq1 (.bool p),
  Eq1 (.bool true),
  Eq1 (.bool true),
  Eq1 (.agg (ev a)),
  Eq1 (.bool z),
  Eq1 (.agg (av A)),
  Eq1 (.agg (av (fun _ => 0))),
  Eq1 (.bool z),
  Eq1 (.bool true),
  Eq1 (.bool true),
  Eq1 (.bool true),
  Eq1 (.agg (ev a)),
  Eq1 (.bool o),
  Eq1 (.agg (av A)),
  Eq1 (.bool o),
  Eq1 (.bool true),
  Eq1 (.bool true),
  Eq1 (.bool true),
  Eq1 (.bool true),
  Eq1 (.bool true),
  Eq1 (.bool true)]
theorem rk11S (a : Fe.E) (b : Fe.E) (A : Nat → Int) (B : Nat → Int) (p : Bool) (z : Bool) (o : Bool) : ∀ j x' q q', (rk11L a b A B p z o).getD j (fun _ _ => True) x' q → Below q.heap.size q q' → (rk11L a b A B p z o).getD j (fun _ _ => True) x' q' := by
  refine sta_all _ ?_
  simp only [rk11L, List.mem_cons, forall_eq_or_imp, List.not_mem_nil, false_implies, implies_true, and_true]
  exact ⟨sta_eq _, sta_eq _, sta_eq _, sta_eq _, sta_eq _, sta_eq _, sta_eq _, sta_eq _, sta_eq _, sta_eq _, sta_eq _, sta_eq _, sta_eq _, sta_eq _, sta_eq _, sta_eq _, sta_eq _, sta_eq _, sta_eq _, sta_eq _, sta_eq _, sta_eq _, sta_eq _, sta_eq _, sta_eq _, sta_eq _⟩
set_option maxRecDepth 20000 in
set_option maxHeartbeats 8000000 in
set_option maxRecDepth 100000 in
theorem reckons_g (a b s d m n sq : Fe.E) (A B Ns Nd Nm Nn Nq N1 : Nat → Int) (p z o : Bool)
    (cra : ∀ w, Calls Tryz.prog 28 #[.agg (ev a)] w (PostV (.bool true) w))
    (crb : ∀ w, Calls Tryz.prog 28 #[.agg (ev b)] w (PostV (.bool true) w))
    (cfa : ∀ w, Calls Tryz.prog 29 #[.agg (ev a)] w (PostN A w))
    (cfb : ∀ w, Calls Tryz.prog 29 #[.agg (ev b)] w (PostN B w))
    (cs : ∀ w, Calls Tryz.prog 34 #[.agg (ev a), .agg (ev b)] w (PostE s w))
    (cd : ∀ w, Calls Tryz.prog 35 #[.agg (ev a), .agg (ev b)] w (PostE d w))
    (cm : ∀ w, Calls Tryz.prog 33 #[.agg (ev a), .agg (ev b)] w (PostE m w))
    (cn : ∀ w, Calls Tryz.prog 19 #[.agg (ev a)] w (PostE n w))
    (cq : ∀ w, Calls Tryz.prog 36 #[.agg (ev a)] w (PostE sq w))
    (ns : ∀ w, Calls Tryz.prog 37 #[.agg (av A), .agg (av B)] w (PostN Ns w))
    (nd : ∀ w, Calls Tryz.prog 38 #[.agg (av A), .agg (av B)] w (PostN Nd w))
    (nm : ∀ w, Calls Tryz.prog 39 #[.agg (av A), .agg (av B)] w (PostN Nm w))
    (nn : ∀ w, Calls Tryz.prog 38 #[.agg (av (fun _ => 0)), .agg (av A)] w (PostN Nn w))
    (nq : ∀ w, Calls Tryz.prog 39 #[.agg (av A), .agg (av A)] w (PostN Nq w))
    (n1 : ∀ w, Calls Tryz.prog 40 #[.int .u64 1] w (PostN N1 w))
    (is1 : ∀ w, Calls Tryz.prog 10 #[.agg (ev s), .agg (av Ns)] w (PostV (.bool true) w))
    (is2 : ∀ w, Calls Tryz.prog 10 #[.agg (ev d), .agg (av Nd)] w (PostV (.bool true) w))
    (is3 : ∀ w, Calls Tryz.prog 10 #[.agg (ev m), .agg (av Nm)] w (PostV (.bool true) w))
    (is4 : ∀ w, Calls Tryz.prog 10 #[.agg (ev n), .agg (av Nn)] w (PostV (.bool true) w))
    (is5 : ∀ w, Calls Tryz.prog 10 #[.agg (ev sq), .agg (av Nq)] w (PostV (.bool true) w))
    (is6 : ∀ w, Calls Tryz.prog 10 #[.agg (ev ⟨1, 0, 0, 0, 0⟩), .agg (av N1)] w (PostV (.bool true) w))
    (csm : ∀ w, Calls Tryz.prog 21 #[.agg (ev a), .agg (ev b)] w (PostV (.bool p) w))
    (czr : ∀ w, Calls Tryz.prog 22 #[.agg (ev a)] w (PostV (.bool z) w))
    (cod : ∀ w, Calls Tryz.prog 41 #[.agg (ev a)] w (PostV (.bool o) w))
    (nod : ∀ w, Calls Tryz.prog 42 #[.agg (av A)] w (PostV (.bool o) w))
    (ep : eqN A B = p)
    (ez : eqN A (fun _ => 0) = z)
    (w : World) : Calls Tryz.prog 14 #[.agg (ev a), .agg (ev b)] w (PostV (.bool true) w) := by
  have hep := fun w => run_eql_N A B w
  have hez := fun w => run_eql_N A (fun _ => 0) w
  rw [ep] at hep
  rw [ez] at hez
  clear ep ez
  replace cra := Lib.hid cra
  replace crb := Lib.hid crb
  replace cfa := Lib.hid cfa
  replace cfb := Lib.hid cfb
  replace cs := Lib.hid cs
  replace cd := Lib.hid cd
  replace cm := Lib.hid cm
  replace cn := Lib.hid cn
  replace cq := Lib.hid cq
  replace ns := Lib.hid ns
  replace nd := Lib.hid nd
  replace nm := Lib.hid nm
  replace nn := Lib.hid nn
  replace nq := Lib.hid nq
  replace n1 := Lib.hid n1
  replace is1 := Lib.hid is1
  replace is2 := Lib.hid is2
  replace is3 := Lib.hid is3
  replace is4 := Lib.hid is4
  replace is5 := Lib.hid is5
  replace is6 := Lib.hid is6
  replace csm := Lib.hid csm
  replace czr := Lib.hid czr
  replace cod := Lib.hid cod
  replace nod := Lib.hid nod
  replace hep := Lib.hid hep
  replace hez := Lib.hid hez
  go_enter Tryz.func14, Tryz.ntmps14
  go_wp2_with (refine ldE rfl rfl rfl (e := a) ((Blk.new _ _ _).alloc _) ?_)
  refine calls_at (fun W0 hW => ?_)
  have hA : Blk W0 (w.heap.size) 27 (ev a) := by rw [hW]; exact (Blk.new _ _ _).alloc _
  have hB : Blk W0 (w.heap.size + 1) 27 (ev b) := by rw [hW]; exact blk_at (by simp) (Blk.new _ _ _)
  have hb0 : Below w.heap.size w W0 := by rw [hW]; go_grown
  clear hW
  refine (cra.out _).mono ?_
  rintro e1 w1 ⟨rfl, hbx⟩
  replace hA := hA.below hbx
  replace hB := hB.below hbx
  replace hb0 := hb0.trans (hbx.mono hb0.size)
  clear hbx
  obtain ⟨q0, q1, q2, q3, q4⟩ := blk5 hB
  go_wp2_with fail
  clear q0 q1 q2 q3 q4
  refine (crb.out _).mono ?_
  rintro e1 w2 ⟨rfl, hbx⟩
  replace hA := hA.below hbx
  replace hB := hB.below hbx
  replace hb0 := hb0.trans (hbx.mono hb0.size)
  clear hbx
  have Hlt0 := Lib.hid hA.lt
  have Hlt1 := Lib.hid hB.lt
  go_wp2
  refine wp_region_grow2 6 (fun k => (Nat.ble 5 k && Nat.ble k 6) || (Nat.ble 30 k && Nat.ble k 33)) _ [] (fun j x' q => (rk5L a b A B w2.heap.size).getD j (fun _ _ => True) x' q) (fun j => j == 4 || j == 5) (fun f => #[.agg (ev a), .agg (ev b), .pointer (some ⟨w.heap.size, 0, none⟩), .pointer (some ⟨w.heap.size + 1, 0, none⟩), .bool false, f 5, f 6, undef, .agg (ev a), .bool true, .bool false, .bool false, .agg (ev b), .bool true, .bool false, .bool false, undef, undef, undef, undef, undef, undef, undef, undef, undef, undef, undef, undef, undef, undef, f 30, f 31, f 32, f 33, undef, undef, undef, undef, undef, undef, undef, undef, undef, undef, undef, undef, undef, undef, undef, undef, undef, undef, undef, undef, undef, undef, undef, undef, undef, undef, undef, undef, undef, undef, undef, undef, undef, undef, undef, undef, undef, undef, undef, undef, undef, undef, undef, undef, undef, undef, undef, undef, undef, undef, undef, undef, undef, undef, undef, undef, undef, undef, undef, undef, undef, undef, undef, undef, undef, undef, undef, undef, undef, undef, undef, undef, undef, undef, undef, undef]) (fun f => rfl) (by kernel_rfl) (by kernel_rfl) (by kernel_rfl) (by kernel_rfl) (by kernel_rfl) (rk5S _ _ _ _ _) (rk5O _ _ _ _ _) ?_ ?_
  · refine steps2_cons ?_ ?_
    · as_aux_lemma =>
      intro f w1 hb hd Q hK
      clear hd
      have hK := Lib.hid hK
      refine ldE rfl rfl rfl (hA.below hb) ?_
      go_wp2
      exact hK.out _ _ rfl (Below.refl _ _) (fun h => by cases h)
    refine steps2_cons ?_ ?_
    · as_aux_lemma =>
      intro f w1 hb hd Q hK
      have e30 : f 30 = .agg (ev a) := hd.1 rfl
      clear hd
      simp only [e30] at hK
      have hK := Lib.hid hK
      go_wp2_with fail
      refine (cfa.out _).mono ?_
      rintro e w2 ⟨rfl, hb2⟩
      go_wp2
      exact hK.out _ _ rfl hb2 (fun h => by cases h)
    refine steps2_cons ?_ ?_
    · as_aux_lemma =>
      intro f w1 hb hd Q hK
      clear hd
      have hK := Lib.hid hK
      refine ldE rfl rfl rfl (hB.below hb) ?_
      go_wp2
      exact hK.out _ _ rfl (Below.refl _ _) (fun h => by cases h)
    refine steps2_cons ?_ ?_
    · as_aux_lemma =>
      intro f w1 hb hd Q hK
      have e32 : f 32 = .agg (ev b) := hd.1 rfl
      clear hd
      simp only [e32] at hK
      have hK := Lib.hid hK
      go_wp2_with fail
      refine (cfb.out _).mono ?_
      rintro e w2 ⟨rfl, hb2⟩
      go_wp2
      exact hK.out _ _ rfl hb2 (fun h => by cases h)
    refine steps2_cons ?_ ?_
    · as_aux_lemma =>
      intro f w1 hb hd Q hK
      clear hd
      have hK := Lib.hid hK
      have hsz := hb.size
      go_wp2
      exact hK.out _ _ ⟨_, rfl, hsz, Blk.new _ _ _⟩ ((Below.refl _ _).alloc (Nat.le_refl _) _) (fun _ => ⟨_, rfl, Nat.le_refl _⟩)
    refine steps2_cons ?_ ?_
    · as_aux_lemma =>
      intro f w1 hb hd Q hK
      clear hd
      have hK := Lib.hid hK
      have hsz := hb.size
      go_wp2
      exact hK.out _ _ ⟨_, rfl, hsz, Blk.new _ _ _⟩ ((Below.refl _ _).alloc (Nat.le_refl _) _) (fun _ => ⟨_, rfl, Nat.le_refl _⟩)
    trivial
  · intro f5 y5 hb hf hne
    obtain ⟨g5, d5, lo5, bk5⟩ : NewB w2.heap.size 31 #[.int .u64 0, .int .u64 0, .int .u64 0, .int .u64 0, .int .u64 0, .int .u64 0, .int .u64 0, .int .u64 0, .int .u64 0, .int .u64 0, .int .u64 0, .int .u64 0, .int .u64 0, .int .u64 0, .int .u64 0, .int .u64 0] (f5 5) y5 := hf 4 _ _ (by decide) rfl rfl
    obtain ⟨g6, d6, lo6, bk6⟩ : NewB w2.heap.size 31 #[.int .u64 0, .int .u64 0, .int .u64 0, .int .u64 0, .int .u64 0, .int .u64 0, .int .u64 0, .int .u64 0, .int .u64 0, .int .u64 0, .int .u64 0, .int .u64 0, .int .u64 0, .int .u64 0, .int .u64 0, .int .u64 0] (f5 6) y5 := hf 5 _ _ (by decide) rfl rfl
    have d31 : f5 31 = .agg (av A) := hf 1 _ _ (by decide) rfl rfl
    have d33 : f5 33 = .agg (av B) := hf 3 _ _ (by decide) rfl rfl
    have hne' : g5 ≠ g6 := by
      have := hne 4 5 _ _ _ _ (by decide) (by decide) (by decide) rfl rfl rfl rfl rfl rfl
      rw [d5, d6] at this
      exact fun h => this (by rw [h])
    clear hf hne
    simp only [d5, d6, d31, d33]
    refine stN (old := fun _ => 0) rfl rfl rfl rfl bk5 ?_
    intro w3 hX hgr hsz
    replace hA := (hA.below hb).grown hgr (fun hh => by injection hh with hh; have := hA.lt; omega)
    replace hB := (hB.below hb).grown hgr (fun hh => by injection hh with hh; have := hB.lt; omega)
    replace hb0 := (hb0.trans (hb.mono hb0.size)).grown hgr (Nat.le_trans hb0.size hb.size) (fun k hk => by injection hk with hk; have := hb0.size; omega)
    replace bk6 := bk6.grown hgr (fun h => hne' (by injection h with h; exact h.symm))
    have hAlt := hA.lt
    have hBlt := hB.lt
    clear hgr hsz hb
    refine stN (old := fun _ => 0) rfl rfl rfl rfl bk6 ?_
    intro w4 hY hgr hsz
    replace hA := hA.grown hgr (fun hh => by injection hh with hh; have := Blk.lt hB; have := lo6; have := Hlt0.out; omega)
    replace hB := hB.grown hgr (fun hh => by injection hh with hh; have := lo6; have := Hlt1.out; omega)
    replace hX := hX.grown hgr (fun h => hne' (by injection h))
    replace hb0 := hb0.grown hgr hb0.size (fun k hk => by injection hk with hk; have := lo6; have := Hlt1.out; omega)
    clear hgr hsz bk5 d5 d6 d31 d33
    have hXlt := hX.lt
    have hYlt := hY.lt
    clear hAlt hBlt
    have hAlt := hA.lt
    have hBlt := hB.lt
    refine wpList_nil ?_
    go_wp2_with (refine stN (old := fun _ => 0) rfl rfl rfl (f := fun _ => 0) rfl (Blk.new _ _ _) ?_; intro w5 hZ hgr hsz)
    replace hA := (hA.alloc _).grown hgr (fun hh => by injection hh with hh; omega)
    replace hB := (hB.alloc _).grown hgr (fun hh => by injection hh with hh; omega)
    replace hX := (hX.alloc _).grown hgr (fun hh => by injection hh with hh; omega)
    replace hY := (hY.alloc _).grown hgr (fun hh => by injection hh with hh; omega)
    replace hb0 := (hb0.alloc hb0.size _).grown hgr (Nat.le_trans hb0.size (by simp)) (fun k hk => by injection hk with hk; have := hb0.size; omega)
    clear hgr hsz hXlt hYlt hAlt hBlt
    generalize w4.heap.size = g7 at *
    refine wp_region_grow2 28 (fun k => (Nat.ble 35 k && Nat.ble k 62)) _ [] (fun j x' q => (rk7L a b s d m A B Ns Nd Nm).getD j (fun _ _ => True) x' q) (fun _ => false) (fun f => #[.agg (ev a), .agg (ev b), .pointer (some ⟨w.heap.size, 0, none⟩), .pointer (some ⟨w.heap.size + 1, 0, none⟩), .bool false, .pointer (some ⟨g5, 0, none⟩), .pointer (some ⟨g6, 0, none⟩), .pointer (some ⟨g7, 0, none⟩), .agg (ev a), .bool true, .bool false, .bool false, .agg (ev b), .bool true, .bool false, .bool false, undef, undef, undef, undef, undef, undef, undef, undef, undef, undef, undef, undef, undef, undef, f5 30, .agg (av A), f5 32, .agg (av B), .agg (av (fun _ => 0)), f 35, f 36, f 37, f 38, f 39, f 40, f 41, f 42, f 43, f 44, f 45, f 46, f 47, f 48, f 49, f 50, f 51, f 52, f 53, f 54, f 55, f 56, f 57, f 58, f 59, f 60, f 61, f 62, undef, undef, undef, undef, undef, undef, undef, undef, undef, undef, undef, undef, undef, undef, undef, undef, undef, undef, undef, undef, undef, undef, undef, undef, undef, undef, undef, undef, undef, undef, undef, undef, undef, undef, undef, undef, undef, undef, undef, undef, undef, undef, undef, undef, undef, undef, undef]) (fun f => rfl) (by kernel_rfl) (by kernel_rfl) (by kernel_rfl) (by kernel_rfl) (by kernel_rfl) (rk7S _ _ _ _ _ _ _ _ _ _) (fun _ _ _ h => by cases h) ?_ ?_
    · refine steps2_cons ?_ ?_
      · as_aux_lemma =>
        intro f w1 hb hd Q hK
        clear hd
        have hK := Lib.hid hK
        refine ldE rfl rfl rfl (hA.below hb) ?_
        go_wp2
        exact hK.out _ _ rfl (Below.refl _ _) (fun h => by cases h)
      refine steps2_cons ?_ ?_
      · as_aux_lemma =>
        intro f w1 hb hd Q hK
        clear hd
        have hK := Lib.hid hK
        refine ldE rfl rfl rfl (hB.below hb) ?_
        go_wp2
        exact hK.out _ _ rfl (Below.refl _ _) (fun h => by cases h)
      refine steps2_cons ?_ ?_
      · as_aux_lemma =>
        intro f w1 hb hd Q hK
        have e35 : f 35 = .agg (ev a) := hd.1 rfl
        have e36 : f 36 = .agg (ev b) := hd.2.1 rfl
        clear hd
        simp only [e35, e36] at hK
        have hK := Lib.hid hK
        go_wp2_with fail
        refine (cs.out _).mono ?_
        rintro e w2 ⟨rfl, hb2⟩
        go_wp2
        exact hK.out _ _ rfl hb2 (fun h => by cases h)
      refine steps2_cons ?_ ?_
      · as_aux_lemma =>
        intro f w1 hb hd Q hK
        clear hd
        have hK := Lib.hid hK
        refine ldN rfl rfl rfl (hX.below hb) ?_
        go_wp2
        exact hK.out _ _ rfl (Below.refl _ _) (fun h => by cases h)
      refine steps2_cons ?_ ?_
      · as_aux_lemma =>
        intro f w1 hb hd Q hK
        clear hd
        have hK := Lib.hid hK
        refine ldN rfl rfl rfl (hY.below hb) ?_
        go_wp2
        exact hK.out _ _ rfl (Below.refl _ _) (fun h => by cases h)
      refine steps2_cons ?_ ?_
      · as_aux_lemma =>
        intro f w1 hb hd Q hK
        have e38 : f 38 = .agg (av A) := hd.1 rfl
        have e39 : f 39 = .agg (av B) := hd.2.1 rfl
        clear hd
        simp only [e38, e39] at hK
        have hK := Lib.hid hK
        go_wp2_with fail
        refine (ns.out _).mono ?_
        rintro e w2 ⟨rfl, hb2⟩
        go_wp2
        exact hK.out _ _ rfl hb2 (fun h => by cases h)
      refine steps2_cons ?_ ?_
      · as_aux_lemma =>
        intro f w1 hb hd Q hK
        have e37 : f 37 = .agg (ev s) := hd.1 rfl
        have e40 : f 40 = .agg (av Ns) := hd.2.1 rfl
        clear hd
        simp only [e37, e40] at hK
        have hK := Lib.hid hK
        go_wp2_with fail
        refine (is1.out _).mono ?_
        rintro e w2 ⟨rfl, hb2⟩
        go_wp2
        exact hK.out _ _ rfl hb2 (fun h => by cases h)
      refine steps2_cons ?_ ?_
      · as_aux_lemma =>
        intro f w1 hb hd Q hK
        have e41 : f 41 = .bool true := hd.1 rfl
        clear hd
        simp only [e41] at hK
        have hK := Lib.hid hK
        go_wp2
        exact hK.out _ _ rfl (Below.refl _ _) (fun h => by cases h)
      refine steps2_cons ?_ ?_
      · as_aux_lemma =>
        intro f w1 hb hd Q hK
        have e42 : f 42 = .bool false := hd.1 rfl
        clear hd
        simp only [e42] at hK
        have hK := Lib.hid hK
        go_wp2
        exact hK.out _ _ rfl (Below.refl _ _) (fun h => by cases h)
      refine steps2_cons ?_ ?_
      · as_aux_lemma =>
        intro f w1 hb hd Q hK
        have e43 : f 43 = .bool false := hd.1 rfl
        clear hd
        simp only [e43] at hK
        have hK := Lib.hid hK
        obtain ⟨c0, c1, c2, c3, c4⟩ := blk5 (hA.below hb)
        go_wp2
        exact hK.out _ _ rfl (Below.refl _ _) (fun h => by cases h)
      refine steps2_cons ?_ ?_
      · as_aux_lemma =>
        intro f w1 hb hd Q hK
        have e43 : f 43 = .bool false := hd.1 rfl
        clear hd
        simp only [e43] at hK
        have hK := Lib.hid hK
        obtain ⟨c0, c1, c2, c3, c4⟩ := blk5 (hB.below hb)
        go_wp2
        exact hK.out _ _ rfl (Below.refl _ _) (fun h => by cases h)
      refine steps2_cons ?_ ?_
      · as_aux_lemma =>
        intro f w1 hb hd Q hK
        have e44 : f 44 = .agg (ev a) := hd.1 rfl
        have e45 : f 45 = .agg (ev b) := hd.2.1 rfl
        have e43 : f 43 = .bool false := hd.2.2.1 rfl
        clear hd
        simp only [e44, e45, e43] at hK
        have hK := Lib.hid hK
        go_wp2_with fail
        refine (cd.out _).mono ?_
        rintro e w2 ⟨rfl, hb2⟩
        go_wp2
        exact hK.out _ _ rfl hb2 (fun h => by cases h)
      refine steps2_cons ?_ ?_
      · as_aux_lemma =>
        intro f w1 hb hd Q hK
        have e43 : f 43 = .bool false := hd.1 rfl
        clear hd
        simp only [e43] at hK
        have hK := Lib.hid hK
        obtain ⟨c0, c1, c2, c3, c4, c5, c6, c7, c8, c9, c10, c11, c12, c13, c14, c15⟩ := blk16 (hX.below hb)
        go_wp2
        exact hK.out _ _ rfl (Below.refl _ _) (fun h => by cases h)
      refine steps2_cons ?_ ?_
      · as_aux_lemma =>
        intro f w1 hb hd Q hK
        have e43 : f 43 = .bool false := hd.1 rfl
        clear hd
        simp only [e43] at hK
        have hK := Lib.hid hK
        obtain ⟨c0, c1, c2, c3, c4, c5, c6, c7, c8, c9, c10, c11, c12, c13, c14, c15⟩ := blk16 (hY.below hb)
        go_wp2
        exact hK.out _ _ rfl (Below.refl _ _) (fun h => by cases h)
      refine steps2_cons ?_ ?_
      · as_aux_lemma =>
        intro f w1 hb hd Q hK
        have e47 : f 47 = .agg (av A) := hd.1 rfl
        have e48 : f 48 = .agg (av B) := hd.2.1 rfl
        have e43 : f 43 = .bool false := hd.2.2.2.1 rfl
        clear hd
        simp only [e47, e48, e43] at hK
        have hK := Lib.hid hK
        go_wp2_with fail
        refine (nd.out _).mono ?_
        rintro e w2 ⟨rfl, hb2⟩
        go_wp2
        exact hK.out _ _ rfl hb2 (fun h => by cases h)
      refine steps2_cons ?_ ?_
      · as_aux_lemma =>
        intro f w1 hb hd Q hK
        have e46 : f 46 = .agg (ev d) := hd.1 rfl
        have e49 : f 49 = .agg (av Nd) := hd.2.1 rfl
        have e43 : f 43 = .bool false := hd.2.2.2.1 rfl
        clear hd
        simp only [e46, e49, e43] at hK
        have hK := Lib.hid hK
        go_wp2_with fail
        refine (is2.out _).mono ?_
        rintro e w2 ⟨rfl, hb2⟩
        go_wp2
        exact hK.out _ _ rfl hb2 (fun h => by cases h)
      refine steps2_cons ?_ ?_
      · as_aux_lemma =>
        intro f w1 hb hd Q hK
        have e50 : f 50 = .bool true := hd.1 rfl
        have e43 : f 43 = .bool false := hd.2.1 rfl
        clear hd
        simp only [e50, e43] at hK
        have hK := Lib.hid hK
        go_wp2
        exact hK.out _ _ rfl (Below.refl _ _) (fun h => by cases h)
      refine steps2_cons ?_ ?_
      · as_aux_lemma =>
        intro f w1 hb hd Q hK
        have e43 : f 43 = .bool false := hd.1 rfl
        have e51 : f 51 = .bool false := hd.2.1 rfl
        clear hd
        simp only [e43, e51] at hK
        have hK := Lib.hid hK
        go_wp2
        exact hK.out _ _ rfl (Below.refl _ _) (fun h => by cases h)
      refine steps2_cons ?_ ?_
      · as_aux_lemma =>
        intro f w1 hb hd Q hK
        have e52 : f 52 = .bool false := hd.1 rfl
        clear hd
        simp only [e52] at hK
        have hK := Lib.hid hK
        go_wp2
        exact hK.out _ _ rfl (Below.refl _ _) (fun h => by cases h)
      refine steps2_cons ?_ ?_
      · as_aux_lemma =>
        intro f w1 hb hd Q hK
        have e53 : f 53 = .bool false := hd.1 rfl
        clear hd
        simp only [e53] at hK
        have hK := Lib.hid hK
        obtain ⟨c0, c1, c2, c3, c4⟩ := blk5 (hA.below hb)
        go_wp2
        exact hK.out _ _ rfl (Below.refl _ _) (fun h => by cases h)
      refine steps2_cons ?_ ?_
      · as_aux_lemma =>
        intro f w1 hb hd Q hK
        have e53 : f 53 = .bool false := hd.1 rfl
        clear hd
        simp only [e53] at hK
        have hK := Lib.hid hK
        obtain ⟨c0, c1, c2, c3, c4⟩ := blk5 (hB.below hb)
        go_wp2
        exact hK.out _ _ rfl (Below.refl _ _) (fun h => by cases h)
      refine steps2_cons ?_ ?_
      · as_aux_lemma =>
        intro f w1 hb hd Q hK
        have e54 : f 54 = .agg (ev a) := hd.1 rfl
        have e55 : f 55 = .agg (ev b) := hd.2.1 rfl
        have e53 : f 53 = .bool false := hd.2.2.1 rfl
        clear hd
        simp only [e54, e55, e53] at hK
        have hK := Lib.hid hK
        go_wp2_with fail
        refine (cm.out _).mono ?_
        rintro e w2 ⟨rfl, hb2⟩
        go_wp2
        exact hK.out _ _ rfl hb2 (fun h => by cases h)
      refine steps2_cons ?_ ?_
      · as_aux_lemma =>
        intro f w1 hb hd Q hK
        have e53 : f 53 = .bool false := hd.1 rfl
        clear hd
        simp only [e53] at hK
        have hK := Lib.hid hK
        obtain ⟨c0, c1, c2, c3, c4, c5, c6, c7, c8, c9, c10, c11, c12, c13, c14, c15⟩ := blk16 (hX.below hb)
        go_wp2
        exact hK.out _ _ rfl (Below.refl _ _) (fun h => by cases h)
      refine steps2_cons ?_ ?_
      · as_aux_lemma =>
        intro f w1 hb hd Q hK
        have e53 : f 53 = .bool false := hd.1 rfl
        clear hd
        simp only [e53] at hK
        have hK := Lib.hid hK
        obtain ⟨c0, c1, c2, c3, c4, c5, c6, c7, c8, c9, c10, c11, c12, c13, c14, c15⟩ := blk16 (hY.below hb)
        go_wp2
        exact hK.out _ _ rfl (Below.refl _ _) (fun h => by cases h)
      refine steps2_cons ?_ ?_
      · as_aux_lemma =>
        intro f w1 hb hd Q hK
        have e57 : f 57 = .agg (av A) := hd.1 rfl
        have e58 : f 58 = .agg (av B) := hd.2.1 rfl
        have e53 : f 53 = .bool false := hd.2.2.2.1 rfl
        clear hd
        simp only [e57, e58, e53] at hK
        have hK := Lib.hid hK
        go_wp2_with fail
        refine (nm.out _).mono ?_
        rintro e w2 ⟨rfl, hb2⟩
        go_wp2
        exact hK.out _ _ rfl hb2 (fun h => by cases h)
      refine steps2_cons ?_ ?_
      · as_aux_lemma =>
        intro f w1 hb hd Q hK
        have e56 : f 56 = .agg (ev m) := hd.1 rfl
        have e59 : f 59 = .agg (av Nm) := hd.2.1 rfl
        have e53 : f 53 = .bool false := hd.2.2.2.1 rfl
        clear hd
        simp only [e56, e59, e53] at hK
        have hK := Lib.hid hK
        go_wp2_with fail
        refine (is3.out _).mono ?_
        rintro e w2 ⟨rfl, hb2⟩
        go_wp2
        exact hK.out _ _ rfl hb2 (fun h => by cases h)
      refine steps2_cons ?_ ?_
      · as_aux_lemma =>
        intro f w1 hb hd Q hK
        have e60 : f 60 = .bool true := hd.1 rfl
        have e53 : f 53 = .bool false := hd.2.1 rfl
        clear hd
        simp only [e60, e53] at hK
        have hK := Lib.hid hK
        go_wp2
        exact hK.out _ _ rfl (Below.refl _ _) (fun h => by cases h)
      refine steps2_cons ?_ ?_
      · as_aux_lemma =>
        intro f w1 hb hd Q hK
        have e53 : f 53 = .bool false := hd.1 rfl
        have e61 : f 61 = .bool false := hd.2.1 rfl
        clear hd
        simp only [e53, e61] at hK
        have hK := Lib.hid hK
        go_wp2
        exact hK.out _ _ rfl (Below.refl _ _) (fun h => by cases h)
      trivial
    · intro f7 y7 hb hf hne
      refine wpList_nil ?_
      have d62 : f7 62 = .bool false := hf 27 _ _ (by decide) rfl rfl
      clear hf hne
      replace hA := hA.below hb
      replace hB := hB.below hb
      replace hX := hX.below hb
      replace hY := hY.below hb
      replace hZ := hZ.below hb
      replace hb0 := hb0.trans (hb.mono hb0.size)
      clear hb
      simp only [d62]
      clear d62
      go_wp2
      refine wp_region_grow2 22 (fun k => (Nat.ble 63 k && Nat.ble k 84)) _ [] (fun j x' q => (rk9L a n sq A Nn Nq N1).getD j (fun _ _ => True) x' q) (fun _ => false) (fun f => #[.agg (ev a), .agg (ev b), .pointer (some ⟨w.heap.size, 0, none⟩), .pointer (some ⟨w.heap.size + 1, 0, none⟩), .bool false, .pointer (some ⟨g5, 0, none⟩), .pointer (some ⟨g6, 0, none⟩), .pointer (some ⟨g7, 0, none⟩), .agg (ev a), .bool true, .bool false, .bool false, .agg (ev b), .bool true, .bool false, .bool false, undef, undef, undef, undef, undef, undef, undef, undef, undef, undef, undef, undef, undef, undef, f5 30, .agg (av A), f5 32, .agg (av B), .agg (av (fun _ => 0)), f7 35, f7 36, f7 37, f7 38, f7 39, f7 40, f7 41, f7 42, f7 43, f7 44, f7 45, f7 46, f7 47, f7 48, f7 49, f7 50, f7 51, f7 52, f7 53, f7 54, f7 55, f7 56, f7 57, f7 58, f7 59, f7 60, f7 61, .bool false, f 63, f 64, f 65, f 66, f 67, f 68, f 69, f 70, f 71, f 72, f 73, f 74, f 75, f 76, f 77, f 78, f 79, f 80, f 81, f 82, f 83, f 84, undef, undef, undef, undef, undef, undef, undef, undef, undef, undef, undef, undef, undef, undef, undef, undef, undef, undef, undef, undef, undef, undef, undef, undef, undef]) (fun f => rfl) (by kernel_rfl) (by kernel_rfl) (by kernel_rfl) (by kernel_rfl) (by kernel_rfl) (rk9S _ _ _ _ _ _ _) (fun _ _ _ h => by cases h) ?_ ?_
      · refine steps2_cons ?_ ?_
        · as_aux_lemma =>
          intro f w1 hb hd Q hK
          clear hd
          have hK := Lib.hid hK
          refine ldE rfl rfl rfl (hA.below hb) ?_
          go_wp2
          exact hK.out _ _ rfl (Below.refl _ _) (fun h => by cases h)
        refine steps2_cons ?_ ?_
        · as_aux_lemma =>
          intro f w1 hb hd Q hK
          have e63 : f 63 = .agg (ev a) := hd.1 rfl
          clear hd
          simp only [e63] at hK
          have hK := Lib.hid hK
          go_wp2_with fail
          refine (cn.out _).mono ?_
          rintro e w2 ⟨rfl, hb2⟩
          go_wp2
          exact hK.out _ _ rfl hb2 (fun h => by cases h)
        refine steps2_cons ?_ ?_
        · as_aux_lemma =>
          intro f w1 hb hd Q hK
          clear hd
          have hK := Lib.hid hK
          refine ldN rfl rfl rfl (hZ.below hb) ?_
          go_wp2
          exact hK.out _ _ rfl (Below.refl _ _) (fun h => by cases h)
        refine steps2_cons ?_ ?_
        · as_aux_lemma =>
          intro f w1 hb hd Q hK
          clear hd
          have hK := Lib.hid hK
          refine ldN rfl rfl rfl (hX.below hb) ?_
          go_wp2
          exact hK.out _ _ rfl (Below.refl _ _) (fun h => by cases h)
        refine steps2_cons ?_ ?_
        · as_aux_lemma =>
          intro f w1 hb hd Q hK
          have e65 : f 65 = .agg (av (fun _ => 0)) := hd.1 rfl
          have e66 : f 66 = .agg (av A) := hd.2.1 rfl
          clear hd
          simp only [e65, e66] at hK
          have hK := Lib.hid hK
          go_wp2_with fail
          refine (nn.out _).mono ?_
          rintro e w2 ⟨rfl, hb2⟩
          go_wp2
          exact hK.out _ _ rfl hb2 (fun h => by cases h)
        refine steps2_cons ?_ ?_
        · as_aux_lemma =>
          intro f w1 hb hd Q hK
          have e64 : f 64 = .agg (ev n) := hd.1 rfl
          have e67 : f 67 = .agg (av Nn) := hd.2.1 rfl
          clear hd
          simp only [e64, e67] at hK
          have hK := Lib.hid hK
          go_wp2_with fail
          refine (is4.out _).mono ?_
          rintro e w2 ⟨rfl, hb2⟩
          go_wp2
          exact hK.out _ _ rfl hb2 (fun h => by cases h)
        refine steps2_cons ?_ ?_
        · as_aux_lemma =>
          intro f w1 hb hd Q hK
          have e68 : f 68 = .bool true := hd.1 rfl
          clear hd
          simp only [e68] at hK
          have hK := Lib.hid hK
          go_wp2
          exact hK.out _ _ rfl (Below.refl _ _) (fun h => by cases h)
        refine steps2_cons ?_ ?_
        · as_aux_lemma =>
          intro f w1 hb hd Q hK
          have e69 : f 69 = .bool false := hd.1 rfl
          clear hd
          simp only [e69] at hK
          have hK := Lib.hid hK
          go_wp2
          exact hK.out _ _ rfl (Below.refl _ _) (fun h => by cases h)
        refine steps2_cons ?_ ?_
        · as_aux_lemma =>
          intro f w1 hb hd Q hK
          have e70 : f 70 = .bool false := hd.1 rfl
          clear hd
          simp only [e70] at hK
          have hK := Lib.hid hK
          obtain ⟨c0, c1, c2, c3, c4⟩ := blk5 (hA.below hb)
          go_wp2
          exact hK.out _ _ rfl (Below.refl _ _) (fun h => by cases h)
        refine steps2_cons ?_ ?_
        · as_aux_lemma =>
          intro f w1 hb hd Q hK
          have e71 : f 71 = .agg (ev a) := hd.1 rfl
          have e70 : f 70 = .bool false := hd.2.1 rfl
          clear hd
          simp only [e71, e70] at hK
          have hK := Lib.hid hK
          go_wp2_with fail
          refine (cq.out _).mono ?_
          rintro e w2 ⟨rfl, hb2⟩
          go_wp2
          exact hK.out _ _ rfl hb2 (fun h => by cases h)
        refine steps2_cons ?_ ?_
        · as_aux_lemma =>
          intro f w1 hb hd Q hK
          have e70 : f 70 = .bool false := hd.1 rfl
          clear hd
          simp only [e70] at hK
          have hK := Lib.hid hK
          obtain ⟨c0, c1, c2, c3, c4, c5, c6, c7, c8, c9, c10, c11, c12, c13, c14, c15⟩ := blk16 (hX.below hb)
          go_wp2
          exact hK.out _ _ rfl (Below.refl _ _) (fun h => by cases h)
        refine steps2_cons ?_ ?_
        · as_aux_lemma =>
          intro f w1 hb hd Q hK
          have e70 : f 70 = .bool false := hd.1 rfl
          clear hd
          simp only [e70] at hK
          have hK := Lib.hid hK
          obtain ⟨c0, c1, c2, c3, c4, c5, c6, c7, c8, c9, c10, c11, c12, c13, c14, c15⟩ := blk16 (hX.below hb)
          go_wp2
          exact hK.out _ _ rfl (Below.refl _ _) (fun h => by cases h)
        refine steps2_cons ?_ ?_
        · as_aux_lemma =>
          intro f w1 hb hd Q hK
          have e73 : f 73 = .agg (av A) := hd.1 rfl
          have e74 : f 74 = .agg (av A) := hd.2.1 rfl
          have e70 : f 70 = .bool false := hd.2.2.2.1 rfl
          clear hd
          simp only [e73, e74, e70] at hK
          have hK := Lib.hid hK
          go_wp2_with fail
          refine (nq.out _).mono ?_
          rintro e w2 ⟨rfl, hb2⟩
          go_wp2
          exact hK.out _ _ rfl hb2 (fun h => by cases h)
        refine steps2_cons ?_ ?_
        · as_aux_lemma =>
          intro f w1 hb hd Q hK
          have e72 : f 72 = .agg (ev sq) := hd.1 rfl
          have e75 : f 75 = .agg (av Nq) := hd.2.1 rfl
          have e70 : f 70 = .bool false := hd.2.2.2.1 rfl
          clear hd
          simp only [e72, e75, e70] at hK
          have hK := Lib.hid hK
          go_wp2_with fail
          refine (is5.out _).mono ?_
          rintro e w2 ⟨rfl, hb2⟩
          go_wp2
          exact hK.out _ _ rfl hb2 (fun h => by cases h)
        refine steps2_cons ?_ ?_
        · as_aux_lemma =>
          intro f w1 hb hd Q hK
          have e76 : f 76 = .bool true := hd.1 rfl
          have e70 : f 70 = .bool false := hd.2.1 rfl
          clear hd
          simp only [e76, e70] at hK
          have hK := Lib.hid hK
          go_wp2
          exact hK.out _ _ rfl (Below.refl _ _) (fun h => by cases h)
        refine steps2_cons ?_ ?_
        · as_aux_lemma =>
          intro f w1 hb hd Q hK
          have e70 : f 70 = .bool false := hd.1 rfl
          have e77 : f 77 = .bool false := hd.2.1 rfl
          clear hd
          simp only [e70, e77] at hK
          have hK := Lib.hid hK
          go_wp2
          exact hK.out _ _ rfl (Below.refl _ _) (fun h => by cases h)
        refine steps2_cons ?_ ?_
        · as_aux_lemma =>
          intro f w1 hb hd Q hK
          have e78 : f 78 = .bool false := hd.1 rfl
          clear hd
          simp only [e78] at hK
          have hK := Lib.hid hK
          go_wp2
          exact hK.out _ _ rfl (Below.refl _ _) (fun h => by cases h)
        refine steps2_cons ?_ ?_
        · as_aux_lemma =>
          intro f w1 hb hd Q hK
          have e79 : f 79 = .bool false := hd.1 rfl
          clear hd
          simp only [e79] at hK
          have hK := Lib.hid hK
          go_wp2_with fail
          refine (one_E _).mono ?_
          rintro e w2 ⟨rfl, hb2⟩
          go_wp2
          exact hK.out _ _ rfl hb2 (fun h => by cases h)
        refine steps2_cons ?_ ?_
        · as_aux_lemma =>
          intro f w1 hb hd Q hK
          have e79 : f 79 = .bool false := hd.2.1 rfl
          clear hd
          simp only [e79] at hK
          have hK := Lib.hid hK
          go_wp2_with fail
          refine (n1.out _).mono ?_
          rintro e w2 ⟨rfl, hb2⟩
          go_wp2
          exact hK.out _ _ rfl hb2 (fun h => by cases h)
        refine steps2_cons ?_ ?_
        · as_aux_lemma =>
          intro f w1 hb hd Q hK
          have e80 : f 80 = .agg (ev ⟨1, 0, 0, 0, 0⟩) := hd.1 rfl
          have e81 : f 81 = .agg (av N1) := hd.2.1 rfl
          have e79 : f 79 = .bool false := hd.2.2.2.1 rfl
          clear hd
          simp only [e80, e81, e79] at hK
          have hK := Lib.hid hK
          go_wp2_with fail
          refine (is6.out _).mono ?_
          rintro e w2 ⟨rfl, hb2⟩
          go_wp2
          exact hK.out _ _ rfl hb2 (fun h => by cases h)
        refine steps2_cons ?_ ?_
        · as_aux_lemma =>
          intro f w1 hb hd Q hK
          have e82 : f 82 = .bool true := hd.1 rfl
          have e79 : f 79 = .bool false := hd.2.1 rfl
          clear hd
          simp only [e82, e79] at hK
          have hK := Lib.hid hK
          go_wp2
          exact hK.out _ _ rfl (Below.refl _ _) (fun h => by cases h)
        refine steps2_cons ?_ ?_
        · as_aux_lemma =>
          intro f w1 hb hd Q hK
          have e79 : f 79 = .bool false := hd.1 rfl
          have e83 : f 83 = .bool false := hd.2.1 rfl
          clear hd
          simp only [e79, e83] at hK
          have hK := Lib.hid hK
          go_wp2
          exact hK.out _ _ rfl (Below.refl _ _) (fun h => by cases h)
        trivial
      · intro f9 y9 hb hf hne
        refine wpList_nil ?_
        have d84 : f9 84 = .bool false := hf 21 _ _ (by decide) rfl rfl
        clear hf hne
        replace hA := hA.below hb
        replace hB := hB.below hb
        replace hX := hX.below hb
        replace hY := hY.below hb
        replace hZ := hZ.below hb
        replace hb0 := hb0.trans (hb.mono hb0.size)
        clear hb
        simp only [d84]
        clear d84
        go_wp2
        refine wp_region_grow2 26 (fun k => Nat.beq k 4 || (Nat.ble 85 k && Nat.ble k 109)) _ [] (fun j x' q => (rk11L a b A B p z o).getD j (fun _ _ => True) x' q) (fun _ => false) (fun f => #[.agg (ev a), .agg (ev b), .pointer (some ⟨w.heap.size, 0, none⟩), .pointer (some ⟨w.heap.size + 1, 0, none⟩), f 4, .pointer (some ⟨g5, 0, none⟩), .pointer (some ⟨g6, 0, none⟩), .pointer (some ⟨g7, 0, none⟩), .agg (ev a), .bool true, .bool false, .bool false, .agg (ev b), .bool true, .bool false, .bool false, undef, undef, undef, undef, undef, undef, undef, undef, undef, undef, undef, undef, undef, undef, f5 30, .agg (av A), f5 32, .agg (av B), .agg (av (fun _ => 0)), f7 35, f7 36, f7 37, f7 38, f7 39, f7 40, f7 41, f7 42, f7 43, f7 44, f7 45, f7 46, f7 47, f7 48, f7 49, f7 50, f7 51, f7 52, f7 53, f7 54, f7 55, f7 56, f7 57, f7 58, f7 59, f7 60, f7 61, .bool false, f9 63, f9 64, f9 65, f9 66, f9 67, f9 68, f9 69, f9 70, f9 71, f9 72, f9 73, f9 74, f9 75, f9 76, f9 77, f9 78, f9 79, f9 80, f9 81, f9 82, f9 83, .bool false, f 85, f 86, f 87, f 88, f 89, f 90, f 91, f 92, f 93, f 94, f 95, f 96, f 97, f 98, f 99, f 100, f 101, f 102, f 103, f 104, f 105, f 106, f 107, f 108, f 109]) (fun f => rfl) (by kernel_rfl) (by kernel_rfl) (by kernel_rfl) (by kernel_rfl) (by kernel_rfl) (rk11S _ _ _ _ _ _ _) (fun _ _ _ h => by cases h) ?_ ?_
        · refine steps2_cons ?_ ?_
          · as_aux_lemma =>
            intro f w1 hb hd Q hK
            clear hd
            have hK := Lib.hid hK
            refine ldE rfl rfl rfl (hA.below hb) ?_
            go_wp2
            exact hK.out _ _ rfl (Below.refl _ _) (fun h => by cases h)
          refine steps2_cons ?_ ?_
          · as_aux_lemma =>
            intro f w1 hb hd Q hK
            clear hd
            have hK := Lib.hid hK
            refine ldE rfl rfl rfl (hB.below hb) ?_
            go_wp2
            exact hK.out _ _ rfl (Below.refl _ _) (fun h => by cases h)
          refine steps2_cons ?_ ?_
          · as_aux_lemma =>
            intro f w1 hb hd Q hK
            have e85 : f 85 = .agg (ev a) := hd.1 rfl
            have e86 : f 86 = .agg (ev b) := hd.2.1 rfl
            clear hd
            simp only [e85, e86] at hK
            have hK := Lib.hid hK
            go_wp2_with fail
            refine (csm.out _).mono ?_
            rintro e w2 ⟨rfl, hb2⟩
            go_wp2
            exact hK.out _ _ rfl hb2 (fun h => by cases h)
          refine steps2_cons ?_ ?_
          · as_aux_lemma =>
            intro f w1 hb hd Q hK
            clear hd
            have hK := Lib.hid hK
            refine ldN rfl rfl rfl (hX.below hb) ?_
            go_wp2
            exact hK.out _ _ rfl (Below.refl _ _) (fun h => by cases h)
          refine steps2_cons ?_ ?_
          · as_aux_lemma =>
            intro f w1 hb hd Q hK
            clear hd
            have hK := Lib.hid hK
            refine ldN rfl rfl rfl (hY.below hb) ?_
            go_wp2
            exact hK.out _ _ rfl (Below.refl _ _) (fun h => by cases h)
          refine steps2_cons ?_ ?_
          · as_aux_lemma =>
            intro f w1 hb hd Q hK
            have e88 : f 88 = .agg (av A) := hd.1 rfl
            have e89 : f 89 = .agg (av B) := hd.2.1 rfl
            clear hd
            simp only [e88, e89] at hK
            have hK := Lib.hid hK
            have hq := hep.out
            go_wp2
            exact hK.out _ _ rfl (Below.refl _ _) (fun h => by cases h)
          refine steps2_cons ?_ ?_
          · as_aux_lemma =>
            intro f w1 hb hd Q hK
            have e87 : f 87 = .bool p := hd.1 rfl
            have e90 : f 90 = .bool p := hd.2.1 rfl
            clear hd
            simp only [e87, e90] at hK
            have hK := Lib.hid hK
            go_wp2
            exact hK.out _ _ (by show Value.bool _ = _; simp) (Below.refl _ _) (fun h => by cases h)
          refine steps2_cons ?_ ?_
          · as_aux_lemma =>
            intro f w1 hb hd Q hK
            have e91 : f 91 = .bool true := hd.1 rfl
            clear hd
            simp only [e91] at hK
            have hK := Lib.hid hK
            go_wp2
            exact hK.out _ _ rfl (Below.refl _ _) (fun h => by cases h)
          refine steps2_cons ?_ ?_
          · as_aux_lemma =>
            intro f w1 hb hd Q hK
            have e92 : f 92 = .bool true := hd.1 rfl
            clear hd
            simp only [e92] at hK
            have hK := Lib.hid hK
            obtain ⟨c0, c1, c2, c3, c4⟩ := blk5 (hA.below hb)
            go_wp2
            exact hK.out _ _ rfl (Below.refl _ _) (fun h => by cases h)
          refine steps2_cons ?_ ?_
          · as_aux_lemma =>
            intro f w1 hb hd Q hK
            have e93 : f 93 = .agg (ev a) := hd.1 rfl
            have e92 : f 92 = .bool true := hd.2.1 rfl
            clear hd
            simp only [e93, e92] at hK
            have hK := Lib.hid hK
            go_wp2_with fail
            refine (czr.out _).mono ?_
            rintro e w2 ⟨rfl, hb2⟩
            go_wp2
            exact hK.out _ _ rfl hb2 (fun h => by cases h)
          refine steps2_cons ?_ ?_
          · as_aux_lemma =>
            intro f w1 hb hd Q hK
            have e92 : f 92 = .bool true := hd.1 rfl
            clear hd
            simp only [e92] at hK
            have hK := Lib.hid hK
            obtain ⟨c0, c1, c2, c3, c4, c5, c6, c7, c8, c9, c10, c11, c12, c13, c14, c15⟩ := blk16 (hX.below hb)
            go_wp2
            exact hK.out _ _ rfl (Below.refl _ _) (fun h => by cases h)
          refine steps2_cons ?_ ?_
          · as_aux_lemma =>
            intro f w1 hb hd Q hK
            have e92 : f 92 = .bool true := hd.1 rfl
            clear hd
            simp only [e92] at hK
            have hK := Lib.hid hK
            obtain ⟨c0, c1, c2, c3, c4, c5, c6, c7, c8, c9, c10, c11, c12, c13, c14, c15⟩ := blk16 (hZ.below hb)
            go_wp2
            exact hK.out _ _ rfl (Below.refl _ _) (fun h => by cases h)
          refine steps2_cons ?_ ?_
          · as_aux_lemma =>
            intro f w1 hb hd Q hK
            have e95 : f 95 = .agg (av A) := hd.1 rfl
            have e96 : f 96 = .agg (av (fun _ => 0)) := hd.2.1 rfl
            have e92 : f 92 = .bool true := hd.2.2.1 rfl
            clear hd
            simp only [e95, e96, e92] at hK
            have hK := Lib.hid hK
            have hq := hez.out
            go_wp2
            exact hK.out _ _ rfl (Below.refl _ _) (fun h => by cases h)
          refine steps2_cons ?_ ?_
          · as_aux_lemma =>
            intro f w1 hb hd Q hK
            have e94 : f 94 = .bool z := hd.1 rfl
            have e97 : f 97 = .bool z := hd.2.1 rfl
            have e92 : f 92 = .bool true := hd.2.2.1 rfl
            clear hd
            simp only [e94, e97, e92] at hK
            have hK := Lib.hid hK
            go_wp2
            exact hK.out _ _ (by show Value.bool _ = _; simp) (Below.refl _ _) (fun h => by cases h)
          refine steps2_cons ?_ ?_
          · as_aux_lemma =>
            intro f w1 hb hd Q hK
            have e92 : f 92 = .bool true := hd.1 rfl
            have e98 : f 98 = .bool true := hd.2.1 rfl
            clear hd
            simp only [e92, e98] at hK
            have hK := Lib.hid hK
            go_wp2
            exact hK.out _ _ rfl (Below.refl _ _) (fun h => by cases h)
          refine steps2_cons ?_ ?_
          · as_aux_lemma =>
            intro f w1 hb hd Q hK
            have e99 : f 99 = .bool true := hd.1 rfl
            clear hd
            simp only [e99] at hK
            have hK := Lib.hid hK
            go_wp2
            exact hK.out _ _ rfl (Below.refl _ _) (fun h => by cases h)
          refine steps2_cons ?_ ?_
          · as_aux_lemma =>
            intro f w1 hb hd Q hK
            have e100 : f 100 = .bool true := hd.1 rfl
            clear hd
            simp only [e100] at hK
            have hK := Lib.hid hK
            obtain ⟨c0, c1, c2, c3, c4⟩ := blk5 (hA.below hb)
            go_wp2
            exact hK.out _ _ rfl (Below.refl _ _) (fun h => by cases h)
          refine steps2_cons ?_ ?_
          · as_aux_lemma =>
            intro f w1 hb hd Q hK
            have e101 : f 101 = .agg (ev a) := hd.1 rfl
            have e100 : f 100 = .bool true := hd.2.1 rfl
            clear hd
            simp only [e101, e100] at hK
            have hK := Lib.hid hK
            go_wp2_with fail
            refine (cod.out _).mono ?_
            rintro e w2 ⟨rfl, hb2⟩
            go_wp2
            exact hK.out _ _ rfl hb2 (fun h => by cases h)
          refine steps2_cons ?_ ?_
          · as_aux_lemma =>
            intro f w1 hb hd Q hK
            have e100 : f 100 = .bool true := hd.1 rfl
            clear hd
            simp only [e100] at hK
            have hK := Lib.hid hK
            obtain ⟨c0, c1, c2, c3, c4, c5, c6, c7, c8, c9, c10, c11, c12, c13, c14, c15⟩ := blk16 (hX.below hb)
            go_wp2
            exact hK.out _ _ rfl (Below.refl _ _) (fun h => by cases h)
          refine steps2_cons ?_ ?_
          · as_aux_lemma =>
            intro f w1 hb hd Q hK
            have e103 : f 103 = .agg (av A) := hd.1 rfl
            have e100 : f 100 = .bool true := hd.2.2.1 rfl
            clear hd
            simp only [e103, e100] at hK
            have hK := Lib.hid hK
            go_wp2_with fail
            refine (nod.out _).mono ?_
            rintro e w2 ⟨rfl, hb2⟩
            go_wp2
            exact hK.out _ _ rfl hb2 (fun h => by cases h)
          refine steps2_cons ?_ ?_
          · as_aux_lemma =>
            intro f w1 hb hd Q hK
            have e102 : f 102 = .bool o := hd.1 rfl
            have e104 : f 104 = .bool o := hd.2.1 rfl
            have e100 : f 100 = .bool true := hd.2.2.1 rfl
            clear hd
            simp only [e102, e104, e100] at hK
            have hK := Lib.hid hK
            go_wp2
            exact hK.out _ _ (by show Value.bool _ = _; simp) (Below.refl _ _) (fun h => by cases h)
          refine steps2_cons ?_ ?_
          · as_aux_lemma =>
            intro f w1 hb hd Q hK
            have e100 : f 100 = .bool true := hd.1 rfl
            have e105 : f 105 = .bool true := hd.2.1 rfl
            clear hd
            simp only [e100, e105] at hK
            have hK := Lib.hid hK
            go_wp2
            exact hK.out _ _ rfl (Below.refl _ _) (fun h => by cases h)
          refine steps2_cons ?_ ?_
          · as_aux_lemma =>
            intro f w1 hb hd Q hK
            have e106 : f 106 = .bool true := hd.1 rfl
            clear hd
            simp only [e106] at hK
            have hK := Lib.hid hK
            go_wp2
            exact hK.out _ _ rfl (Below.refl _ _) (fun h => by cases h)
          refine steps2_cons ?_ ?_
          · as_aux_lemma =>
            intro f w1 hb hd Q hK
            have e107 : f 107 = .bool true := hd.1 rfl
            clear hd
            simp only [e107] at hK
            have hK := Lib.hid hK
            go_wp2_with fail
            refine (awake_c _).mono ?_
            rintro e w2 ⟨rfl, hb2⟩
            go_wp2
            exact hK.out _ _ rfl hb2 (fun h => by cases h)
          refine steps2_cons ?_ ?_
          · as_aux_lemma =>
            intro f w1 hb hd Q hK
            have e107 : f 107 = .bool true := hd.1 rfl
            have e108 : f 108 = .bool true := hd.2.1 rfl
            clear hd
            simp only [e107, e108] at hK
            have hK := Lib.hid hK
            go_wp2
            exact hK.out _ _ rfl (Below.refl _ _) (fun h => by cases h)
          refine steps2_cons ?_ ?_
          · as_aux_lemma =>
            intro f w1 hb hd Q hK
            have e109 : f 109 = .bool true := hd.1 rfl
            clear hd
            simp only [e109] at hK
            have hK := Lib.hid hK
            go_wp2
            exact hK.out _ _ rfl (Below.refl _ _) (fun h => by cases h)
          trivial
        · intro f11 y11 hb hf hne
          refine wpList_nil ?_
          have d4 : f11 4 = .bool true := hf 25 _ _ (by decide) rfl rfl
          clear hf hne
          simp only [d4]
          go_wp2
          go_returns
          exact ⟨rfl, hb0.trans (hb.mono hb0.size)⟩
end Go.Proofs.YtjejibojcjfleaaGreat
