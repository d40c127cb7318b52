/- The law FieldPowers, walked. -/
import Derived.Test.YtjejibojcjfleaaGreatN13
import Derived.Test.YtjejibojcjfleaaGreatRi
import Derived.Test.YtjejibojcjfleaaGreatAw
import Derived.Deep.Cut
namespace Go.Proofs.YtjejibojcjfleaaGreat
open Go.RowKit
set_option maxRecDepth 20000 in
set_option maxHeartbeats 8000000 in
set_option maxRecDepth 100000 in
theorem powers_n (a b i r : Fe.E) (ok ra rb : Bool) (hr : (ra && rb) = false)
    (cra : ∀ w, Calls Tryz.prog 28 #[.agg (ev a)] w (PostV (.bool ra) w))
    (crb : ∀ w, Calls Tryz.prog 28 #[.agg (ev b)] w (PostV (.bool rb) w))
    (cinv : ∀ w, Calls Tryz.prog 23 #[.agg (ev a)] w (PostE i w))
    (crt : ∀ w, Calls Tryz.prog 20 #[.agg (ev a), .agg (ev b)] w (PostR r ok w))
    (w : World) : Calls Tryz.prog 15 #[.agg (ev a), .agg (ev b)] w (PostV (.bool true) w) := by
  have hr' : ra = true → rb = false := fun h => by subst h; exact hr
  clear hr
  replace cra := Lib.hid cra
  replace crb := Lib.hid crb
  replace cinv := Lib.hid cinv
  replace crt := Lib.hid crt
  go_enter Tryz.func15, Tryz.ntmps15
  go_wp2_with (refine ldE rfl rfl rfl (e := a) ((Blk.new _ _ _).alloc _) ?_)
  refine calls_at (fun W0 hW => ?_)
  have hA : Blk W0 (w.heap.size) 27 (ev a) := by rw [hW]; exact (Blk.new _ _ _).alloc _
  have hB : Blk W0 (w.heap.size + 1) 27 (ev b) := by rw [hW]; exact blk_at (by simp) (Blk.new _ _ _)
  have hb0 : Below w.heap.size w W0 := by rw [hW]; go_grown
  clear hW
  refine (cra.out _).mono ?_
  rintro e1 w1 ⟨rfl, hbx⟩
  replace hA := hA.below hbx
  replace hB := hB.below hbx
  replace hb0 := hb0.trans (hbx.mono hb0.size)
  clear hbx
  cases ra
  · skip
    go_wp2_with (refine ldE rfl rfl rfl hA ?_)
    refine (cinv.out _).mono ?_
    rintro e1 w3 ⟨rfl, hbx⟩
    replace hA := hA.below hbx
    replace hB := hB.below hbx
    replace hb0 := hb0.trans (hbx.mono hb0.size)
    clear hbx
    go_wp2_with (first | (refine ldE rfl rfl rfl hA ?_) | (refine ldE rfl rfl rfl hB ?_))
    refine (crt.out _).mono ?_
    rintro e1 w4 ⟨rfl, hbx⟩
    replace hA := hA.below hbx
    replace hB := hB.below hbx
    replace hb0 := hb0.trans (hbx.mono hb0.size)
    clear hbx
    go_wp2_with fail
    refine (awake_c _).mono ?_
    rintro e1 w9 ⟨rfl, hbx⟩
    replace hb0 := hb0.trans (hbx.mono hb0.size)
    go_wp2
    go_returns
    exact ⟨rfl, hb0⟩
  · have hrb := hr' rfl
    subst hrb
    obtain ⟨q0, q1, q2, q3, q4⟩ := blk5 hB
    go_wp2_with fail
    clear q0 q1 q2 q3 q4
    refine (crb.out _).mono ?_
    rintro e1 w2 ⟨rfl, hbx⟩
    replace hA := hA.below hbx
    replace hB := hB.below hbx
    replace hb0 := hb0.trans (hbx.mono hb0.size)
    clear hbx
    go_wp2_with (refine ldE rfl rfl rfl hA ?_)
    refine (cinv.out _).mono ?_
    rintro e1 w3 ⟨rfl, hbx⟩
    replace hA := hA.below hbx
    replace hB := hB.below hbx
    replace hb0 := hb0.trans (hbx.mono hb0.size)
    clear hbx
    go_wp2_with (first | (refine ldE rfl rfl rfl hA ?_) | (refine ldE rfl rfl rfl hB ?_))
    refine (crt.out _).mono ?_
    rintro e1 w4 ⟨rfl, hbx⟩
    replace hA := hA.below hbx
    replace hB := hB.below hbx
    replace hb0 := hb0.trans (hbx.mono hb0.size)
    clear hbx
    go_wp2_with fail
    refine (awake_c _).mono ?_
    rintro e1 w9 ⟨rfl, hbx⟩
    replace hb0 := hb0.trans (hbx.mono hb0.size)
    go_wp2
    go_returns
    exact ⟨rfl, hb0⟩
def poT5L (a : Fe.E) (b : Fe.E) (A : Nat → Int) (B : Nat → Int) (B0 : Nat) : List (Value → World → Prop) := [
  Eq1 (.agg (ev a)),
  Eq1 (.agg (av A)),
  Eq1 (.agg (ev b)),
  Eq1 (.agg (av B)),
  NewB B0 31 #[.int .u64 0, .int .u64 0, .int .u64 0, .int .u64 0, .int .u64 0, .int .u64 0, .int .u64 0, .int .u64 0, .int .u64 0, .int .u64 0, .int .u64 0, .int .u64 0, .int .u64 0, .int .u64 0, .int .u64 0, .int .u64 0],
  NewB B0 31 #[.int .u64 0, .int .u64 0, .int .u64 0, .int .u64 0, .int .u64 0, .int .u64 0, .int .u64 0, .int .u64 0, .int .u64 0, .int .u64 0, .int .u64 0, .int .u64 0, .int .u64 0, .int .u64 0, .int .u64 0, .int .u64 0]]
theorem poT5S (a : Fe.E) (b : Fe.E) (A : Nat → Int) (B : Nat → Int) (B0 : Nat) : ∀ j x' q q', (poT5L a b A B B0).getD j (fun _ _ => True) x' q → Below q.heap.size q q' → (poT5L a b A B B0).getD j (fun _ _ => True) x' q' := by
  refine sta_all _ ?_
  simp only [poT5L, List.mem_cons, forall_eq_or_imp, List.not_mem_nil, false_implies, implies_true, and_true]
  exact ⟨sta_eq _, sta_eq _, sta_eq _, sta_eq _, sta_new _ _ _, sta_new _ _ _⟩
theorem poT5O (a : Fe.E) (b : Fe.E) (A : Nat → Int) (B : Nat → Int) (B0 : Nat) : ∀ j x' q, (fun j => j == 4 || j == 5) j = true → (poT5L a b A B B0).getD j (fun _ _ => True) x' q → ∀ g, x' = .pointer (some ⟨g, 0, none⟩) → g < q.heap.size := by
  intro j x' q hj hv g e
  have hj' : j = 4 ∨ j = 5 := by simpa using hj
  rcases hj' with rfl | rfl
  all_goals exact new_lt hv e
def poT10L (a : Fe.E) (b : Fe.E) (u : Fe.E) (aa : Fe.E) (B0 : Nat) : List (Value → World → Prop) := [
  Eq1 (.agg (ev a)),
  Eq1 (.agg (ev aa)),
  Eq1 (.agg (ev b)),
  Eq1 (.agg (ev u)),
  NewB B0 27 #[.int .u64 0, .int .u64 0, .int .u64 0, .int .u64 0, .int .u64 0]]
theorem poT10S (a : Fe.E) (b : Fe.E) (u : Fe.E) (aa : Fe.E) (B0 : Nat) : ∀ j x' q q', (poT10L a b u aa B0).getD j (fun _ _ => True) x' q → Below q.heap.size q q' → (poT10L a b u aa B0).getD j (fun _ _ => True) x' q' := by
  refine sta_all _ ?_
  simp only [poT10L, List.mem_cons, forall_eq_or_imp, List.not_mem_nil, false_implies, implies_true, and_true]
  exact ⟨sta_eq _, sta_eq _, sta_eq _, sta_eq _, sta_new _ _ _⟩
theorem poT10O (a : Fe.E) (b : Fe.E) (u : Fe.E) (aa : Fe.E) (B0 : Nat) : ∀ j x' q, (fun j => j == 4) j = true → (poT10L a b u aa B0).getD j (fun _ _ => True) x' q → ∀ g, x' = .pointer (some ⟨g, 0, none⟩) → g < q.heap.size := by
  intro j x' q hj hv g e
  have hj' : j = 4 := by simpa using hj
  subst hj'
  all_goals exact new_lt hv e
def poT12L (u : Fe.E) (B : Nat → Int) (s2 : Nat → Int) (UU : Nat → Int) : List (Value → World → Prop) := [
  Eq1 (.agg (ev u)),
  Eq1 (.agg (av UU)),
  Eq1 (.agg (av B)),
  Eq1 (.tuple #[.agg (av s2), .bool true]),
  Eq1 (.tuple #[.agg (av s2), .bool true]),
  Eq1 (.agg (av s2)),
  Eq1 (.bool true)]
theorem poT12S (u : Fe.E) (B : Nat → Int) (s2 : Nat → Int) (UU : Nat → Int) : ∀ j x' q q', (poT12L u B s2 UU).getD j (fun _ _ => True) x' q → Below q.heap.size q q' → (poT12L u B s2 UU).getD j (fun _ _ => True) x' q' := by
  refine sta_all _ ?_
  simp only [poT12L, List.mem_cons, forall_eq_or_imp, List.not_mem_nil, false_implies, implies_true, and_true]
  exact ⟨sta_eq _, sta_eq _, sta_eq _, sta_eq _, sta_eq _, sta_eq _, sta_eq _⟩
def poT13L (a : Fe.E) (r2 : Fe.E) (i : Fe.E) (A : Nat → Int) (s2 : Nat → Int) (I : Nat → Int) : List (Value → World → Prop) := [
  Eq1 (.bool true),
  Eq1 (.bool true),
  Eq1 (.bool true),
  Eq1 (.bool true),
  Eq1 (.agg (ev a)),
  Eq1 (.agg (ev i)),
  Eq1 (.agg (av A)),
  Eq1 (.agg (av I)),
  Eq1 (.bool true),
  Eq1 (.bool true),
  Eq1 (.bool true),
  Eq1 (.bool true),
  Eq1 (.bool false),
  Eq1 (.bool false),
  Eq1 (.agg (ev r2)),
  Eq1 (.agg (av s2)),
  Eq1 (.bool true),
  Eq1 (.bool true),
  Eq1 (.bool true),
  Eq1 (.bool true),
  Eq1 (.bool true),
  Eq1 (.bool true),
  Eq1 (.bool true)]
theorem poT13S (a : Fe.E) (r2 : Fe.E) (i : Fe.E) (A : Nat → Int) (s2 : Nat → Int) (I : Nat → Int) : ∀ j x' q q', (poT13L a r2 i A s2 I).getD j (fun _ _ => True) x' q → Below q.heap.size q q' → (poT13L a r2 i A s2 I).getD j (fun _ _ => True) x' q' := by
  refine sta_all _ ?_
  simp only [poT13L, List.mem_cons, forall_eq_or_imp, List.not_mem_nil, false_implies, implies_true, and_true]
  exact ⟨sta_eq _, sta_eq _, sta_eq _, sta_eq _, sta_eq _, sta_eq _, sta_eq _, sta_eq _, sta_eq _, sta_eq _, sta_eq _, sta_eq _, sta_eq _, sta_eq _, sta_eq _, sta_eq _, sta_eq _, sta_eq _, sta_eq _, sta_eq _, sta_eq _, sta_eq _, sta_eq _⟩
set_option maxRecDepth 20000 in
set_option maxHeartbeats 8000000 in
set_option maxRecDepth 100000 in
theorem powers_t (a b r u aa r2 i : Fe.E) (A B s s2 UU I : Nat → Int)
    (cra : ∀ w, Calls Tryz.prog 28 #[.agg (ev a)] w (PostV (.bool true) w))
    (crb : ∀ w, Calls Tryz.prog 28 #[.agg (ev b)] w (PostV (.bool true) w))
    (cfa : ∀ w, Calls Tryz.prog 29 #[.agg (ev a)] w (PostN A w))
    (cfb : ∀ w, Calls Tryz.prog 29 #[.agg (ev b)] w (PostN B w))
    (crt : ∀ w, Calls Tryz.prog 20 #[.agg (ev a), .agg (ev b)] w (PostR r true w))
    (nrt : ∀ w, Calls Tryz.prog 43 #[.agg (av A), .agg (av B)] w (PostR2 s true w))
    (cis : ∀ w, Calls Tryz.prog 10 #[.agg (ev r), .agg (av s)] w (PostV (.bool true) w))
    (csq : ∀ w, Calls Tryz.prog 36 #[.agg (ev a)] w (PostE aa w))
    (cml : ∀ w, Calls Tryz.prog 33 #[.agg (ev aa), .agg (ev b)] w (PostE u w))
    (crt2 : ∀ w, Calls Tryz.prog 20 #[.agg (ev u), .agg (ev b)] w (PostR r2 true w))
    (cfu : ∀ w, Calls Tryz.prog 29 #[.agg (ev u)] w (PostN UU w))
    (nrt2 : ∀ w, Calls Tryz.prog 43 #[.agg (av UU), .agg (av B)] w (PostR2 s2 true w))
    (cinv : ∀ w, Calls Tryz.prog 23 #[.agg (ev a)] w (PostE i w))
    (ninv : ∀ w, Calls Tryz.prog 44 #[.agg (av A)] w (PostN I w))
    (cis2 : ∀ w, Calls Tryz.prog 10 #[.agg (ev i), .agg (av I)] w (PostV (.bool true) w))
    (cis3 : ∀ w, Calls Tryz.prog 10 #[.agg (ev r2), .agg (av s2)] w (PostV (.bool true) w))
    (w : World) : Calls Tryz.prog 15 #[.agg (ev a), .agg (ev b)] w (PostV (.bool true) w) := by
  replace cra := Lib.hid cra
  replace crb := Lib.hid crb
  replace cfa := Lib.hid cfa
  replace cfb := Lib.hid cfb
  replace crt := Lib.hid crt
  replace nrt := Lib.hid nrt
  replace cis := Lib.hid cis
  replace csq := Lib.hid csq
  replace cml := Lib.hid cml
  replace crt2 := Lib.hid crt2
  replace cfu := Lib.hid cfu
  replace nrt2 := Lib.hid nrt2
  replace cinv := Lib.hid cinv
  replace ninv := Lib.hid ninv
  replace cis2 := Lib.hid cis2
  replace cis3 := Lib.hid cis3
  go_enter Tryz.func15, Tryz.ntmps15
  go_wp2_with (refine ldE rfl rfl rfl (e := a) ((Blk.new _ _ _).alloc _) ?_)
  refine calls_at (fun W0 hW => ?_)
  have hA : Blk W0 (w.heap.size) 27 (ev a) := by rw [hW]; exact (Blk.new _ _ _).alloc _
  have hB : Blk W0 (w.heap.size + 1) 27 (ev b) := by rw [hW]; exact blk_at (by simp) (Blk.new _ _ _)
  have hb0 : Below w.heap.size w W0 := by rw [hW]; go_grown
  clear hW
  refine (cra.out _).mono ?_
  rintro e1 w1 ⟨rfl, hbx⟩
  replace hA := hA.below hbx
  replace hB := hB.below hbx
  replace hb0 := hb0.trans (hbx.mono hb0.size)
  clear hbx
  obtain ⟨q0, q1, q2, q3, q4⟩ := blk5 hB
  go_wp2_with fail
  clear q0 q1 q2 q3 q4
  refine (crb.out _).mono ?_
  rintro e1 w2 ⟨rfl, hbx⟩
  replace hA := hA.below hbx
  replace hB := hB.below hbx
  replace hb0 := hb0.trans (hbx.mono hb0.size)
  clear hbx
  go_wp2
  refine wp_region_grow2 6 (fun k => (Nat.ble 5 k && Nat.ble k 6) || (Nat.ble 26 k && Nat.ble k 29)) _ [] (fun j x' q => (poT5L a b A B w2.heap.size).getD j (fun _ _ => True) x' q) (fun j => j == 4 || j == 5) (fun f => #[.agg (ev a), .agg (ev b), .pointer (some ⟨w.heap.size, 0, none⟩), .pointer (some ⟨w.heap.size + 1, 0, none⟩), .bool false, f 5, f 6, undef, undef, undef, undef, undef, .agg (ev a), .bool true, .bool false, .bool false, .agg (ev b), .bool true, .bool false, .bool false, undef, undef, undef, undef, undef, undef, f 26, f 27, f 28, f 29, undef, undef, undef, undef, undef, undef, undef, undef, undef, undef, undef, undef, undef, undef, undef, undef, undef, undef, undef, undef, undef, undef, undef, undef, undef, undef, undef, undef, undef, undef, undef, undef, undef, undef, undef, undef, undef, undef, undef, undef, undef, undef, undef, undef, undef, undef, undef, undef, undef, undef, undef, undef, undef, undef, undef, undef, undef, undef, undef, undef, undef, undef, undef, undef, undef, undef, undef, undef, undef, undef, undef, undef]) (fun f => rfl) (by kernel_rfl) (by kernel_rfl) (by kernel_rfl) (by kernel_rfl) (by kernel_rfl) (poT5S _ _ _ _ _) (poT5O _ _ _ _ _) ?_ ?_
  · refine steps2_cons ?_ ?_
    · as_aux_lemma =>
      intro f w1 hb hd Q hK
      clear hd
      have hK := Lib.hid hK
      refine ldE rfl rfl rfl (hA.below hb) ?_
      go_wp2
      exact hK.out _ _ rfl (Below.refl _ _) (fun h => by cases h)
    refine steps2_cons ?_ ?_
    · as_aux_lemma =>
      intro f w1 hb hd Q hK
      have e26 : f 26 = .agg (ev a) := hd.1 rfl
      clear hd
      simp only [e26] at hK
      have hK := Lib.hid hK
      go_wp2_with fail
      refine (cfa.out _).mono ?_
      rintro e w2 ⟨rfl, hb2⟩
      go_wp2
      exact hK.out _ _ rfl hb2 (fun h => by cases h)
    refine steps2_cons ?_ ?_
    · as_aux_lemma =>
      intro f w1 hb hd Q hK
      clear hd
      have hK := Lib.hid hK
      refine ldE rfl rfl rfl (hB.below hb) ?_
      go_wp2
      exact hK.out _ _ rfl (Below.refl _ _) (fun h => by cases h)
    refine steps2_cons ?_ ?_
    · as_aux_lemma =>
      intro f w1 hb hd Q hK
      have e28 : f 28 = .agg (ev b) := hd.1 rfl
      clear hd
      simp only [e28] at hK
      have hK := Lib.hid hK
      go_wp2_with fail
      refine (cfb.out _).mono ?_
      rintro e w2 ⟨rfl, hb2⟩
      go_wp2
      exact hK.out _ _ rfl hb2 (fun h => by cases h)
    refine steps2_cons ?_ ?_
    · as_aux_lemma =>
      intro f w1 hb hd Q hK
      clear hd
      have hK := Lib.hid hK
      have hsz := hb.size
      go_wp2
      exact hK.out _ _ ⟨_, rfl, hsz, Blk.new _ _ _⟩ ((Below.refl _ _).alloc (Nat.le_refl _) _) (fun _ => ⟨_, rfl, Nat.le_refl _⟩)
    refine steps2_cons ?_ ?_
    · as_aux_lemma =>
      intro f w1 hb hd Q hK
      clear hd
      have hK := Lib.hid hK
      have hsz := hb.size
      go_wp2
      exact hK.out _ _ ⟨_, rfl, hsz, Blk.new _ _ _⟩ ((Below.refl _ _).alloc (Nat.le_refl _) _) (fun _ => ⟨_, rfl, Nat.le_refl _⟩)
    trivial
  · intro f1 y1 hb hf hne
    obtain ⟨g5, d5, lo5, bk5⟩ : NewB w2.heap.size 31 #[.int .u64 0, .int .u64 0, .int .u64 0, .int .u64 0, .int .u64 0, .int .u64 0, .int .u64 0, .int .u64 0, .int .u64 0, .int .u64 0, .int .u64 0, .int .u64 0, .int .u64 0, .int .u64 0, .int .u64 0, .int .u64 0] (f1 5) y1 := hf 4 _ _ (by decide) rfl rfl
    obtain ⟨g6, d6, lo6, bk6⟩ : NewB w2.heap.size 31 #[.int .u64 0, .int .u64 0, .int .u64 0, .int .u64 0, .int .u64 0, .int .u64 0, .int .u64 0, .int .u64 0, .int .u64 0, .int .u64 0, .int .u64 0, .int .u64 0, .int .u64 0, .int .u64 0, .int .u64 0, .int .u64 0] (f1 6) y1 := hf 5 _ _ (by decide) rfl rfl
    have d27 : f1 27 = .agg (av A) := hf 1 _ _ (by decide) rfl rfl
    have d29 : f1 29 = .agg (av B) := hf 3 _ _ (by decide) rfl rfl
    have hne' : g5 ≠ g6 := by
      have := hne 4 5 _ _ _ _ (by decide) (by decide) (by decide) rfl rfl rfl rfl rfl rfl
      rw [d5, d6] at this
      exact fun h => this (by rw [h])
    clear hf hne
    simp only [d5, d6, d27, d29]
    have Hlt0 := Lib.hid hA.lt
    have Hlt1 := Lib.hid hB.lt
    refine stN (old := fun _ => 0) rfl rfl rfl rfl bk5 ?_
    intro w3 hX hgr hsz
    replace hA := (hA.below hb).grown hgr (fun hh => by injection hh with hh; have := hA.lt; omega)
    replace hB := (hB.below hb).grown hgr (fun hh => by injection hh with hh; have := hB.lt; omega)
    replace hb0 := (hb0.trans (hb.mono hb0.size)).grown hgr (Nat.le_trans hb0.size hb.size) (fun k hk => by injection hk with hk; have := hb0.size; omega)
    replace bk6 := bk6.grown hgr (fun h => hne' (by injection h with h; exact h.symm))
    clear hgr hsz hb
    refine stN (old := fun _ => 0) rfl rfl rfl rfl bk6 ?_
    intro w4 hY hgr hsz
    replace hA := hA.grown hgr (fun hh => by injection hh with hh; have := lo6; have := Hlt0.out; omega)
    replace hB := hB.grown hgr (fun hh => by injection hh with hh; have := lo6; have := Hlt1.out; omega)
    replace hX := hX.grown hgr (fun h => hne' (by injection h))
    replace hb0 := hb0.grown hgr hb0.size (fun k hk => by injection hk with hk; have := lo6; have := Hlt1.out; omega)
    clear hgr hsz bk5 d5 d6 d27 d29
    refine wpList_nil ?_
    go_wp2_with (first | (refine ldE rfl rfl rfl hA ?_) | (refine ldE rfl rfl rfl hB ?_))
    refine (crt.out _).mono ?_
    rintro e1 w5 ⟨rfl, hbx⟩
    replace hA := hA.below hbx
    replace hB := hB.below hbx
    replace hX := hX.below hbx
    replace hY := hY.below hbx
    replace hb0 := hb0.trans (hbx.mono hb0.size)
    clear hbx
    have HBXhR := hb0.size
    have hAlt := hA.lt
    have hBlt := hB.lt
    have hXlt := hX.lt
    have hYlt := hY.lt
    go_wp2_with (first | (refine stE (old := ⟨0, 0, 0, 0, 0⟩) rfl rfl rfl (e := r) rfl (Blk.new _ _ _) ?_; intro w6 hR hgr hsz; replace hA := (hA.alloc _).grown hgr (fun hh => by injection hh with hh; omega); replace hB := (hB.alloc _).grown hgr (fun hh => by injection hh with hh; omega); replace hX := (hX.alloc _).grown hgr (fun hh => by injection hh with hh; omega); replace hY := (hY.alloc _).grown hgr (fun hh => by injection hh with hh; omega); replace hb0 := (hb0.alloc hb0.size _).grown hgr (Nat.le_trans hb0.size (by simp)) (fun k hk => by injection hk with hk; have := hb0.size; omega); clear hgr hsz) | (refine ldN rfl rfl rfl hX ?_) | (refine ldN rfl rfl rfl hY ?_))
    have HNhRhA := Lib.hid (show w.heap.size ≠ w5.heap.size from by omega)
    have HNhRhB := Lib.hid (show w.heap.size + 1 ≠ w5.heap.size from by omega)
    have HNhRhX := Lib.hid (show g5 ≠ w5.heap.size from by omega)
    have HNhRhY := Lib.hid (show g6 ≠ w5.heap.size from by omega)
    clear hAlt hBlt hXlt hYlt
    have HBhR := Lib.hid (show w.heap.size ≤ w5.heap.size from HBXhR)
    clear HBXhR
    generalize w5.heap.size = g7 at *
    refine (nrt.out _).mono ?_
    rintro e1 w7 ⟨rfl, hbx⟩
    replace hA := hA.below hbx
    replace hB := hB.below hbx
    replace hX := hX.below hbx
    replace hY := hY.below hbx
    replace hR := hR.below hbx
    replace hb0 := hb0.trans (hbx.mono hb0.size)
    clear hbx
    have HBXhS := hb0.size
    have hAlt := hA.lt
    have hBlt := hB.lt
    have hXlt := hX.lt
    have hYlt := hY.lt
    have hRlt := hR.lt
    go_wp2_with (first | (refine stN (old := fun _ => 0) rfl rfl rfl (f := s) rfl (Blk.new _ _ _) ?_; intro w8 hS hgr hsz; replace hA := (hA.alloc _).grown hgr (fun hh => by injection hh with hh; omega); replace hB := (hB.alloc _).grown hgr (fun hh => by injection hh with hh; omega); replace hX := (hX.alloc _).grown hgr (fun hh => by injection hh with hh; omega); replace hY := (hY.alloc _).grown hgr (fun hh => by injection hh with hh; omega); replace hR := (hR.alloc _).grown hgr (fun hh => by injection hh with hh; omega); replace hb0 := (hb0.alloc hb0.size _).grown hgr (Nat.le_trans hb0.size (by simp)) (fun k hk => by injection hk with hk; have := hb0.size; omega); clear hgr hsz; obtain ⟨p0, p1, p2, p3, p4⟩ := blk5 hR; obtain ⟨o0, o1, o2, o3, o4, o5, o6, o7, o8, o9, o10, o11, o12, o13, o14, o15⟩ := blk16 hS))
    have HNhShA := Lib.hid (show w.heap.size ≠ w7.heap.size from by omega)
    have HNhShB := Lib.hid (show w.heap.size + 1 ≠ w7.heap.size from by omega)
    have HNhShX := Lib.hid (show g5 ≠ w7.heap.size from by omega)
    have HNhShY := Lib.hid (show g6 ≠ w7.heap.size from by omega)
    have HNhShR := Lib.hid (show g7 ≠ w7.heap.size from by omega)
    clear hAlt hBlt hXlt hYlt hRlt
    have HBhS := Lib.hid (show w.heap.size ≤ w7.heap.size from HBXhS)
    clear HBXhS
    generalize w7.heap.size = g9 at *
    clear p0 p1 p2 p3 p4 o0 o1 o2 o3 o4 o5 o6 o7 o8 o9 o10 o11 o12 o13 o14 o15
    refine (cis.out _).mono ?_
    rintro e1 w9 ⟨rfl, hbx⟩
    replace hA := hA.below hbx
    replace hB := hB.below hbx
    replace hX := hX.below hbx
    replace hY := hY.below hbx
    replace hR := hR.below hbx
    replace hS := hS.below hbx
    replace hb0 := hb0.trans (hbx.mono hb0.size)
    clear hbx
    go_wp2
    refine wp_region_grow2 5 (fun k => Nat.beq k 11 || (Nat.ble 63 k && Nat.ble k 66)) _ [] (fun j x' q => (poT10L a b u aa w9.heap.size).getD j (fun _ _ => True) x' q) (fun j => j == 4) (fun f => #[.agg (ev a), .agg (ev b), .pointer (some ⟨w.heap.size, 0, none⟩), .pointer (some ⟨w.heap.size + 1, 0, none⟩), .bool false, .pointer (some ⟨g5, 0, none⟩), .pointer (some ⟨g6, 0, none⟩), .pointer (some ⟨g7, 0, none⟩), .bool true, .pointer (some ⟨g9, 0, none⟩), .bool true, f 11, .agg (ev a), .bool true, .bool false, .bool false, .agg (ev b), .bool true, .bool false, .bool false, undef, undef, undef, undef, undef, undef, f1 26, .agg (av A), f1 28, .agg (av B), .tuple #[.agg (ev r), .bool true], .agg (ev a), .agg (ev b), .tuple #[.agg (ev r), .bool true], .agg (ev r), .bool true, .tuple #[.agg (av s), .bool true], .agg (av A), .agg (av B), .tuple #[.agg (av s), .bool true], .agg (av s), .bool true, .bool true, .bool true, .bool false, .bool false, .bool true, .bool true, .agg (ev r), .agg (av s), .bool true, .bool false, .bool false, .bool false, .bool false, .bool true, .bool false, .bool false, undef, undef, undef, .bool false, .bool false, f 63, f 64, f 65, f 66, undef, undef, undef, undef, undef, undef, undef, undef, undef, undef, undef, undef, undef, undef, undef, undef, undef, undef, undef, undef, undef, undef, undef, undef, undef, undef, undef, undef, undef, undef, undef, undef, undef, undef, undef]) (fun f => rfl) (by kernel_rfl) (by kernel_rfl) (by kernel_rfl) (by kernel_rfl) (by kernel_rfl) (poT10S _ _ _ _ _) (poT10O _ _ _ _ _) ?_ ?_
    · refine steps2_cons ?_ ?_
      · as_aux_lemma =>
        intro f w1 hb hd Q hK
        clear hd
        have hK := Lib.hid hK
        refine ldE rfl rfl rfl (hA.below hb) ?_
        go_wp2
        exact hK.out _ _ rfl (Below.refl _ _) (fun h => by cases h)
      refine steps2_cons ?_ ?_
      · as_aux_lemma =>
        intro f w1 hb hd Q hK
        have e63 : f 63 = .agg (ev a) := hd.1 rfl
        clear hd
        simp only [e63] at hK
        have hK := Lib.hid hK
        go_wp2_with fail
        refine (csq.out _).mono ?_
        rintro e w2 ⟨rfl, hb2⟩
        go_wp2
        exact hK.out _ _ rfl hb2 (fun h => by cases h)
      refine steps2_cons ?_ ?_
      · as_aux_lemma =>
        intro f w1 hb hd Q hK
        clear hd
        have hK := Lib.hid hK
        refine ldE rfl rfl rfl (hB.below hb) ?_
        go_wp2
        exact hK.out _ _ rfl (Below.refl _ _) (fun h => by cases h)
      refine steps2_cons ?_ ?_
      · as_aux_lemma =>
        intro f w1 hb hd Q hK
        have e64 : f 64 = .agg (ev aa) := hd.1 rfl
        have e65 : f 65 = .agg (ev b) := hd.2.1 rfl
        clear hd
        simp only [e64, e65] at hK
        have hK := Lib.hid hK
        go_wp2_with fail
        refine (cml.out _).mono ?_
        rintro e w2 ⟨rfl, hb2⟩
        go_wp2
        exact hK.out _ _ rfl hb2 (fun h => by cases h)
      refine steps2_cons ?_ ?_
      · as_aux_lemma =>
        intro f w1 hb hd Q hK
        clear hd
        have hK := Lib.hid hK
        have hsz := hb.size
        go_wp2
        exact hK.out _ _ ⟨_, rfl, hsz, Blk.new _ _ _⟩ ((Below.refl _ _).alloc (Nat.le_refl _) _) (fun _ => ⟨_, rfl, Nat.le_refl _⟩)
      trivial
    · intro f2 y2 hb hf hne
      obtain ⟨g11, d11, lo11, bk11⟩ : NewB w9.heap.size 27 #[.int .u64 0, .int .u64 0, .int .u64 0, .int .u64 0, .int .u64 0] (f2 11) y2 := hf 4 _ _ (by decide) rfl rfl
      have d66 : f2 66 = .agg (ev u) := hf 3 _ _ (by decide) rfl rfl
      clear hf hne
      simp only [d11, d66]
      refine stE (old := ⟨0, 0, 0, 0, 0⟩) rfl rfl rfl rfl bk11 ?_
      intro v2 hU hgr hsz
      have HNhUhR := Lib.hid (show g7 ≠ g11 from by have := hR.lt; omega)
      have HNhUhS := Lib.hid (show g9 ≠ g11 from by have := hS.lt; omega)
      have HBhU := Lib.hid (show w.heap.size ≤ g11 from by have := hb0.size; omega)
      replace hA := (hA.below hb).grown hgr (fun hh => by injection hh with hh; have := hA.lt; omega)
      replace hB := (hB.below hb).grown hgr (fun hh => by injection hh with hh; have := hB.lt; omega)
      replace hX := (hX.below hb).grown hgr (fun hh => by injection hh with hh; have := hX.lt; omega)
      replace hY := (hY.below hb).grown hgr (fun hh => by injection hh with hh; have := hY.lt; omega)
      replace hR := (hR.below hb).grown hgr (fun hh => by injection hh with hh; have := hR.lt; omega)
      replace hS := (hS.below hb).grown hgr (fun hh => by injection hh with hh; have := hS.lt; omega)
      replace hb0 := (hb0.trans (hb.mono hb0.size)).grown hgr (Nat.le_trans hb0.size hb.size) (fun k hk => by injection hk with hk; have := hb0.size; omega)
      clear hgr hsz hb bk11 d11 d66
      refine wpList_nil ?_
      go_wp2_with (first | (refine ldE rfl rfl rfl hU ?_) | (refine ldE rfl rfl rfl hB ?_))
      refine (crt2.out _).mono ?_
      rintro e1 w11 ⟨rfl, hbx⟩
      replace hA := hA.below hbx
      replace hB := hB.below hbx
      replace hX := hX.below hbx
      replace hY := hY.below hbx
      replace hR := hR.below hbx
      replace hS := hS.below hbx
      replace hU := hU.below hbx
      replace hb0 := hb0.trans (hbx.mono hb0.size)
      clear hbx
      go_wp2_with (refine stE rfl rfl rfl (e := r2) rfl hR ?_; intro w12 hR2 hgr hsz; replace hA := hA.grown hgr (fun hh => HNhRhA.out (by injection hh)); replace hB := hB.grown hgr (fun hh => HNhRhB.out (by injection hh)); replace hX := hX.grown hgr (fun hh => HNhRhX.out (by injection hh)); replace hY := hY.grown hgr (fun hh => HNhRhY.out (by injection hh)); replace hS := hS.grown hgr (fun hh => HNhShR.out (by injection hh with hh; exact hh.symm)); replace hU := hU.grown hgr (fun hh => HNhUhR.out (by injection hh with hh; exact hh.symm)); replace hb0 := hb0.grown hgr hb0.size (fun k hk => by injection hk with hk; have := HBhR.out; omega); clear hgr hsz)
      clear hR
      have hR := hR2
      clear hR2
      go_cut [10] from 300 (fun c wx => c = .bool true ∧ Blk wx (w.heap.size) 27 (ev a) ∧ Blk wx (w.heap.size + 1) 27 (ev b) ∧ Blk wx (g5) 31 (av A) ∧ Blk wx (g6) 31 (av B) ∧ Blk wx (g7) 27 (ev r2) ∧ Blk wx (g9) 31 (av s2) ∧ Blk wx (g11) 27 (ev u) ∧ Below w.heap.size w wx)
      case first =>
        refine wp_region_grow3 7 6 (fun k => (Nat.ble 73 k && Nat.ble k 79)) _ [] (fun j x' q => (poT12L u B s2 UU).getD j (fun _ _ => True) x' q) (fun _ => false) (fun f => #[.agg (ev a), .agg (ev b), .pointer (some ⟨w.heap.size, 0, none⟩), .pointer (some ⟨w.heap.size + 1, 0, none⟩), .bool false, .pointer (some ⟨g5, 0, none⟩), .pointer (some ⟨g6, 0, none⟩), .pointer (some ⟨g7, 0, none⟩), .bool true, .pointer (some ⟨g9, 0, none⟩), .bool true, .pointer (some ⟨g11, 0, none⟩), .agg (ev a), .bool true, .bool false, .bool false, .agg (ev b), .bool true, .bool false, .bool false, undef, undef, undef, undef, undef, undef, f1 26, .agg (av A), f1 28, .agg (av B), .tuple #[.agg (ev r), .bool true], .agg (ev a), .agg (ev b), .tuple #[.agg (ev r), .bool true], .agg (ev r), .bool true, .tuple #[.agg (av s), .bool true], .agg (av A), .agg (av B), .tuple #[.agg (av s), .bool true], .agg (av s), .bool true, .bool true, .bool true, .bool false, .bool false, .bool true, .bool true, .agg (ev r), .agg (av s), .bool true, .bool false, .bool false, .bool false, .bool false, .bool true, .bool false, .bool false, undef, undef, undef, .bool false, .bool false, f2 63, f2 64, f2 65, .agg (ev u), .tuple #[.agg (ev r2), .bool true], .agg (ev u), .agg (ev b), .tuple #[.agg (ev r2), .bool true], .agg (ev r2), .bool true, f 73, f 74, f 75, f 76, f 77, f 78, f 79, undef, undef, undef, undef, undef, undef, undef, undef, undef, undef, undef, undef, undef, undef, undef, undef, undef, undef, undef, undef, undef, undef]) (fun f => rfl) (by decide) (by kernel_rfl) (by kernel_rfl) (by kernel_rfl) (by kernel_rfl) (by kernel_rfl) (poT12S _ _ _ _) ?_ ?_ ?_
        · refine steps2_cons ?_ ?_
          · as_aux_lemma =>
            intro f w1 hb hd Q hK
            clear hd
            have hK := Lib.hid hK
            refine ldE rfl rfl rfl (hU.below hb) ?_
            go_wp2
            exact hK.out _ _ rfl (Below.refl _ _) (fun h => by cases h)
          refine steps2_cons ?_ ?_
          · as_aux_lemma =>
            intro f w1 hb hd Q hK
            have e74 : f 74 = .agg (ev u) := hd.1 rfl
            clear hd
            simp only [e74] at hK
            have hK := Lib.hid hK
            go_wp2_with fail
            refine (cfu.out _).mono ?_
            rintro e w2 ⟨rfl, hb2⟩
            go_wp2
            exact hK.out _ _ rfl hb2 (fun h => by cases h)
          refine steps2_cons ?_ ?_
          · as_aux_lemma =>
            intro f w1 hb hd Q hK
            clear hd
            have hK := Lib.hid hK
            refine ldN rfl rfl rfl (hY.below hb) ?_
            go_wp2
            exact hK.out _ _ rfl (Below.refl _ _) (fun h => by cases h)
          refine steps2_cons ?_ ?_
          · as_aux_lemma =>
            intro f w1 hb hd Q hK
            have e75 : f 75 = .agg (av UU) := hd.1 rfl
            have e76 : f 76 = .agg (av B) := hd.2.1 rfl
            clear hd
            simp only [e75, e76] at hK
            have hK := Lib.hid hK
            go_wp2_with fail
            refine (nrt2.out _).mono ?_
            rintro e w2 ⟨rfl, hb2⟩
            go_wp2
            exact hK.out _ _ rfl hb2 (fun h => by cases h)
          refine steps2_cons ?_ ?_
          · as_aux_lemma =>
            intro f w1 hb hd Q hK
            have e77 : f 77 = .tuple #[.agg (av s2), .bool true] := hd.1 rfl
            clear hd
            simp only [e77] at hK
            have hK := Lib.hid hK
            go_wp2
            exact hK.out _ _ rfl (Below.refl _ _) (fun h => by cases h)
          refine steps2_cons ?_ ?_
          · as_aux_lemma =>
            intro f w1 hb hd Q hK
            have e73 : f 73 = .tuple #[.agg (av s2), .bool true] := hd.1 rfl
            clear hd
            simp only [e73] at hK
            have hK := Lib.hid hK
            go_wp2
            exact hK.out _ _ rfl (Below.refl _ _) (fun h => by cases h)
          refine steps2_cons ?_ ?_
          · as_aux_lemma =>
            intro f w1 hb hd Q hK
            have e73 : f 73 = .tuple #[.agg (av s2), .bool true] := hd.1 rfl
            clear hd
            simp only [e73] at hK
            have hK := Lib.hid hK
            go_wp2
            exact hK.out _ _ rfl (Below.refl _ _) (fun h => by cases h)
          trivial
        · intro f w1 hb hf
          have d78 : f 78 = .agg (av s2) := hf 5 _ _ (by decide) rfl rfl
          have d79 : f 79 = .bool true := hf 6 _ _ (by decide) rfl rfl
          clear hf
          simp only [d78, d79]
          refine stN rfl rfl rfl (f := s2) rfl (hS.below hb) ?_
          intro w13 hS2 hgr hsz
          replace hA := (hA.below hb).grown hgr (fun hh => HNhShA.out (by injection hh))
          replace hB := (hB.below hb).grown hgr (fun hh => HNhShB.out (by injection hh))
          replace hX := (hX.below hb).grown hgr (fun hh => HNhShX.out (by injection hh))
          replace hY := (hY.below hb).grown hgr (fun hh => HNhShY.out (by injection hh))
          replace hR := (hR.below hb).grown hgr (fun hh => HNhShR.out (by injection hh))
          replace hU := (hU.below hb).grown hgr (fun hh => HNhUhS.out (by injection hh with hh; exact hh.symm))
          replace hb0 := (hb0.trans (hb.mono hb0.size)).grown hgr (Nat.le_trans hb0.size hb.size) (fun k hk => by injection hk with hk; have := HBhS.out; omega)
          clear hgr hsz hb
          go_wp2
          go_meet
          case rel => exact ⟨rfl, hA, hB, hX, hY, hR, hS2, hU, hb0⟩
        · intro f w1 hb hf on oe hon hoe
          cases hon
          cases hoe
          have d73 : f 73 = .tuple #[.agg (av s2), .bool true] := hf 4 _ _ (by decide) (by decide) rfl rfl
          have d78 : f 78 = .agg (av s2) := hf 5 _ _ (by decide) (by decide) rfl rfl
          clear hf
          simp only [d73, d78]
          refine stN rfl rfl rfl (f := s2) rfl (hS.below hb) ?_
          intro w13 hS2 hgr hsz
          replace hA := (hA.below hb).grown hgr (fun hh => HNhShA.out (by injection hh))
          replace hB := (hB.below hb).grown hgr (fun hh => HNhShB.out (by injection hh))
          replace hX := (hX.below hb).grown hgr (fun hh => HNhShX.out (by injection hh))
          replace hY := (hY.below hb).grown hgr (fun hh => HNhShY.out (by injection hh))
          replace hR := (hR.below hb).grown hgr (fun hh => HNhShR.out (by injection hh))
          replace hU := (hU.below hb).grown hgr (fun hh => HNhUhS.out (by injection hh with hh; exact hh.symm))
          replace hb0 := (hb0.trans (hb.mono hb0.size)).grown hgr (Nat.le_trans hb0.size hb.size) (fun k hk => by injection hk with hk; have := HBhS.out; omega)
          clear hgr hsz hb
          go_wp2
          go_meet
          case rel => exact ⟨rfl, hA, hB, hX, hY, hR, hS2, hU, hb0⟩
      case rest =>
        clear hA hB hX hY hR hS hU hb0
        obtain ⟨hc, hA, hB, hX, hY, hR, hS, hU, hb0⟩ := hcut
        subst hc
        go_wp2
        refine wp_region_grow2 23 (fun k => Nat.beq k 4 || (Nat.ble 80 k && Nat.ble k 101)) _ [] (fun j x' q => (poT13L a r2 i A s2 I).getD j (fun _ _ => True) x' q) (fun _ => false) (fun f => #[.agg (ev a), .agg (ev b), .pointer (some ⟨w.heap.size, 0, none⟩), .pointer (some ⟨w.heap.size + 1, 0, none⟩), f 4, .pointer (some ⟨g5, 0, none⟩), .pointer (some ⟨g6, 0, none⟩), .pointer (some ⟨g7, 0, none⟩), .bool true, .pointer (some ⟨g9, 0, none⟩), .bool true, .pointer (some ⟨g11, 0, none⟩), .agg (ev a), .bool true, .bool false, .bool false, .agg (ev b), .bool true, .bool false, .bool false, undef, undef, undef, undef, undef, undef, f1 26, .agg (av A), f1 28, .agg (av B), .tuple #[.agg (ev r), .bool true], .agg (ev a), .agg (ev b), .tuple #[.agg (ev r), .bool true], .agg (ev r), .bool true, .tuple #[.agg (av s), .bool true], .agg (av A), .agg (av B), .tuple #[.agg (av s), .bool true], .agg (av s), .bool true, .bool true, .bool true, .bool false, .bool false, .bool true, .bool true, .agg (ev r), .agg (av s), .bool true, .bool false, .bool false, .bool false, .bool false, .bool true, .bool false, .bool false, undef, undef, undef, .bool false, .bool false, f2 63, f2 64, f2 65, .agg (ev u), .tuple #[.agg (ev r2), .bool true], .agg (ev u), .agg (ev b), .tuple #[.agg (ev r2), .bool true], .agg (ev r2), .bool true, u73, u74, u75, u76, u77, u78, u79, f 80, f 81, f 82, f 83, f 84, f 85, f 86, f 87, f 88, f 89, f 90, f 91, f 92, f 93, f 94, f 95, f 96, f 97, f 98, f 99, f 100, f 101]) (fun f => rfl) (by kernel_rfl) (by kernel_rfl) (by kernel_rfl) (by kernel_rfl) (by kernel_rfl) (poT13S _ _ _ _ _ _) (fun _ _ _ h => by cases h) ?_ ?_
        · refine steps2_cons ?_ ?_
          · as_aux_lemma =>
            intro f w1 hb hd Q hK
            clear hd
            have hK := Lib.hid hK
            go_wp2
            exact hK.out _ _ rfl (Below.refl _ _) (fun h => by cases h)
          refine steps2_cons ?_ ?_
          · as_aux_lemma =>
            intro f w1 hb hd Q hK
            clear hd
            have hK := Lib.hid hK
            go_wp2
            exact hK.out _ _ rfl (Below.refl _ _) (fun h => by cases h)
          refine steps2_cons ?_ ?_
          · as_aux_lemma =>
            intro f w1 hb hd Q hK
            have e80 : f 80 = .bool true := hd.1 rfl
            have e81 : f 81 = .bool true := hd.2.1 rfl
            clear hd
            simp only [e80, e81] at hK
            have hK := Lib.hid hK
            go_wp2
            exact hK.out _ _ rfl (Below.refl _ _) (fun h => by cases h)
          refine steps2_cons ?_ ?_
          · as_aux_lemma =>
            intro f w1 hb hd Q hK
            have e82 : f 82 = .bool true := hd.1 rfl
            clear hd
            simp only [e82] at hK
            have hK := Lib.hid hK
            go_wp2
            exact hK.out _ _ rfl (Below.refl _ _) (fun h => by cases h)
          refine steps2_cons ?_ ?_
          · as_aux_lemma =>
            intro f w1 hb hd Q hK
            have e83 : f 83 = .bool true := hd.1 rfl
            clear hd
            simp only [e83] at hK
            have hK := Lib.hid hK
            obtain ⟨c0, c1, c2, c3, c4⟩ := blk5 (hA.below hb)
            go_wp2
            exact hK.out _ _ rfl (Below.refl _ _) (fun h => by cases h)
          refine steps2_cons ?_ ?_
          · as_aux_lemma =>
            intro f w1 hb hd Q hK
            have e84 : f 84 = .agg (ev a) := hd.1 rfl
            have e83 : f 83 = .bool true := hd.2.1 rfl
            clear hd
            simp only [e84, e83] at hK
            have hK := Lib.hid hK
            go_wp2_with fail
            refine (cinv.out _).mono ?_
            rintro e w2 ⟨rfl, hb2⟩
            go_wp2
            exact hK.out _ _ rfl hb2 (fun h => by cases h)
          refine steps2_cons ?_ ?_
          · as_aux_lemma =>
            intro f w1 hb hd Q hK
            have e83 : f 83 = .bool true := hd.1 rfl
            clear hd
            simp only [e83] at hK
            have hK := Lib.hid hK
            obtain ⟨c0, c1, c2, c3, c4, c5, c6, c7, c8, c9, c10, c11, c12, c13, c14, c15⟩ := blk16 (hX.below hb)
            go_wp2
            exact hK.out _ _ rfl (Below.refl _ _) (fun h => by cases h)
          refine steps2_cons ?_ ?_
          · as_aux_lemma =>
            intro f w1 hb hd Q hK
            have e86 : f 86 = .agg (av A) := hd.1 rfl
            have e83 : f 83 = .bool true := hd.2.2.1 rfl
            clear hd
            simp only [e86, e83] at hK
            have hK := Lib.hid hK
            go_wp2_with fail
            refine (ninv.out _).mono ?_
            rintro e w2 ⟨rfl, hb2⟩
            go_wp2
            exact hK.out _ _ rfl hb2 (fun h => by cases h)
          refine steps2_cons ?_ ?_
          · as_aux_lemma =>
            intro f w1 hb hd Q hK
            have e85 : f 85 = .agg (ev i) := hd.1 rfl
            have e87 : f 87 = .agg (av I) := hd.2.1 rfl
            have e83 : f 83 = .bool true := hd.2.2.2.1 rfl
            clear hd
            simp only [e85, e87, e83] at hK
            have hK := Lib.hid hK
            go_wp2_with fail
            refine (cis2.out _).mono ?_
            rintro e w2 ⟨rfl, hb2⟩
            go_wp2
            exact hK.out _ _ rfl hb2 (fun h => by cases h)
          refine steps2_cons ?_ ?_
          · as_aux_lemma =>
            intro f w1 hb hd Q hK
            have e83 : f 83 = .bool true := hd.1 rfl
            have e88 : f 88 = .bool true := hd.2.1 rfl
            clear hd
            simp only [e83, e88] at hK
            have hK := Lib.hid hK
            go_wp2
            exact hK.out _ _ rfl (Below.refl _ _) (fun h => by cases h)
          refine steps2_cons ?_ ?_
          · as_aux_lemma =>
            intro f w1 hb hd Q hK
            have e89 : f 89 = .bool true := hd.1 rfl
            clear hd
            simp only [e89] at hK
            have hK := Lib.hid hK
            go_wp2
            exact hK.out _ _ rfl (Below.refl _ _) (fun h => by cases h)
          refine steps2_cons ?_ ?_
          · as_aux_lemma =>
            intro f w1 hb hd Q hK
            have e90 : f 90 = .bool true := hd.1 rfl
            clear hd
            simp only [e90] at hK
            have hK := Lib.hid hK
            go_wp2
            exact hK.out _ _ rfl (Below.refl _ _) (fun h => by cases h)
          refine steps2_cons ?_ ?_
          · as_aux_lemma =>
            intro f w1 hb hd Q hK
            have e91 : f 91 = .bool true := hd.1 rfl
            have e90 : f 90 = .bool true := hd.2.1 rfl
            clear hd
            simp only [e91, e90] at hK
            have hK := Lib.hid hK
            go_wp2
            exact hK.out _ _ rfl (Below.refl _ _) (fun h => by cases h)
          refine steps2_cons ?_ ?_
          · as_aux_lemma =>
            intro f w1 hb hd Q hK
            have e92 : f 92 = .bool false := hd.1 rfl
            have e90 : f 90 = .bool true := hd.2.1 rfl
            clear hd
            simp only [e92, e90] at hK
            have hK := Lib.hid hK
            go_wp2
            exact hK.out _ _ rfl (Below.refl _ _) (fun h => by cases h)
          refine steps2_cons ?_ ?_
          · as_aux_lemma =>
            intro f w1 hb hd Q hK
            have e93 : f 93 = .bool false := hd.1 rfl
            clear hd
            simp only [e93] at hK
            have hK := Lib.hid hK
            obtain ⟨c0, c1, c2, c3, c4⟩ := blk5 (hR.below hb)
            go_wp2
            exact hK.out _ _ rfl (Below.refl _ _) (fun h => by cases h)
          refine steps2_cons ?_ ?_
          · as_aux_lemma =>
            intro f w1 hb hd Q hK
            have e93 : f 93 = .bool false := hd.1 rfl
            clear hd
            simp only [e93] at hK
            have hK := Lib.hid hK
            obtain ⟨c0, c1, c2, c3, c4, c5, c6, c7, c8, c9, c10, c11, c12, c13, c14, c15⟩ := blk16 (hS.below hb)
            go_wp2
            exact hK.out _ _ rfl (Below.refl _ _) (fun h => by cases h)
          refine steps2_cons ?_ ?_
          · as_aux_lemma =>
            intro f w1 hb hd Q hK
            have e94 : f 94 = .agg (ev r2) := hd.1 rfl
            have e95 : f 95 = .agg (av s2) := hd.2.1 rfl
            have e93 : f 93 = .bool false := hd.2.2.1 rfl
            clear hd
            simp only [e94, e95, e93] at hK
            have hK := Lib.hid hK
            go_wp2_with fail
            refine (cis3.out _).mono ?_
            rintro e w2 ⟨rfl, hb2⟩
            go_wp2
            exact hK.out _ _ rfl hb2 (fun h => by cases h)
          refine steps2_cons ?_ ?_
          · as_aux_lemma =>
            intro f w1 hb hd Q hK
            have e93 : f 93 = .bool false := hd.1 rfl
            have e96 : f 96 = .bool true := hd.2.1 rfl
            have e90 : f 90 = .bool true := hd.2.2.1 rfl
            clear hd
            simp only [e93, e96, e90] at hK
            have hK := Lib.hid hK
            go_wp2
            exact hK.out _ _ rfl (Below.refl _ _) (fun h => by cases h)
          refine steps2_cons ?_ ?_
          · as_aux_lemma =>
            intro f w1 hb hd Q hK
            have e90 : f 90 = .bool true := hd.1 rfl
            have e97 : f 97 = .bool true := hd.2.1 rfl
            clear hd
            simp only [e90, e97] at hK
            have hK := Lib.hid hK
            go_wp2
            exact hK.out _ _ rfl (Below.refl _ _) (fun h => by cases h)
          refine steps2_cons ?_ ?_
          · as_aux_lemma =>
            intro f w1 hb hd Q hK
            have e98 : f 98 = .bool true := hd.1 rfl
            clear hd
            simp only [e98] at hK
            have hK := Lib.hid hK
            go_wp2
            exact hK.out _ _ rfl (Below.refl _ _) (fun h => by cases h)
          refine steps2_cons ?_ ?_
          · as_aux_lemma =>
            intro f w1 hb hd Q hK
            have e99 : f 99 = .bool true := hd.1 rfl
            clear hd
            simp only [e99] at hK
            have hK := Lib.hid hK
            go_wp2_with fail
            refine (awake_c _).mono ?_
            rintro e w2 ⟨rfl, hb2⟩
            go_wp2
            exact hK.out _ _ rfl hb2 (fun h => by cases h)
          refine steps2_cons ?_ ?_
          · as_aux_lemma =>
            intro f w1 hb hd Q hK
            have e99 : f 99 = .bool true := hd.1 rfl
            have e100 : f 100 = .bool true := hd.2.1 rfl
            clear hd
            simp only [e99, e100] at hK
            have hK := Lib.hid hK
            go_wp2
            exact hK.out _ _ rfl (Below.refl _ _) (fun h => by cases h)
          refine steps2_cons ?_ ?_
          · as_aux_lemma =>
            intro f w1 hb hd Q hK
            have e101 : f 101 = .bool true := hd.1 rfl
            clear hd
            simp only [e101] at hK
            have hK := Lib.hid hK
            go_wp2
            exact hK.out _ _ rfl (Below.refl _ _) (fun h => by cases h)
          trivial
        · intro f4 y4 hb hf hne
          refine wpList_nil ?_
          have d4 : f4 4 = .bool true := hf 22 _ _ (by decide) rfl rfl
          clear hf hne
          replace hA := hA.below hb
          replace hB := hB.below hb
          replace hX := hX.below hb
          replace hY := hY.below hb
          replace hR := hR.below hb
          replace hS := hS.below hb
          replace hU := hU.below hb
          replace hb0 := hb0.trans (hb.mono hb0.size)
          clear hb
          simp only [d4]
          clear d4
          go_wp2
          go_returns
          exact ⟨rfl, hb0⟩
def poF5L (a : Fe.E) (b : Fe.E) (A : Nat → Int) (B : Nat → Int) (B0 : Nat) : List (Value → World → Prop) := [
  Eq1 (.agg (ev a)),
  Eq1 (.agg (av A)),
  Eq1 (.agg (ev b)),
  Eq1 (.agg (av B)),
  NewB B0 31 #[.int .u64 0, .int .u64 0, .int .u64 0, .int .u64 0, .int .u64 0, .int .u64 0, .int .u64 0, .int .u64 0, .int .u64 0, .int .u64 0, .int .u64 0, .int .u64 0, .int .u64 0, .int .u64 0, .int .u64 0, .int .u64 0],
  NewB B0 31 #[.int .u64 0, .int .u64 0, .int .u64 0, .int .u64 0, .int .u64 0, .int .u64 0, .int .u64 0, .int .u64 0, .int .u64 0, .int .u64 0, .int .u64 0, .int .u64 0, .int .u64 0, .int .u64 0, .int .u64 0, .int .u64 0]]
theorem poF5S (a : Fe.E) (b : Fe.E) (A : Nat → Int) (B : Nat → Int) (B0 : Nat) : ∀ j x' q q', (poF5L a b A B B0).getD j (fun _ _ => True) x' q → Below q.heap.size q q' → (poF5L a b A B B0).getD j (fun _ _ => True) x' q' := by
  refine sta_all _ ?_
  simp only [poF5L, List.mem_cons, forall_eq_or_imp, List.not_mem_nil, false_implies, implies_true, and_true]
  exact ⟨sta_eq _, sta_eq _, sta_eq _, sta_eq _, sta_new _ _ _, sta_new _ _ _⟩
theorem poF5O (a : Fe.E) (b : Fe.E) (A : Nat → Int) (B : Nat → Int) (B0 : Nat) : ∀ j x' q, (fun j => j == 4 || j == 5) j = true → (poF5L a b A B B0).getD j (fun _ _ => True) x' q → ∀ g, x' = .pointer (some ⟨g, 0, none⟩) → g < q.heap.size := by
  intro j x' q hj hv g e
  have hj' : j = 4 ∨ j = 5 := by simpa using hj
  rcases hj' with rfl | rfl
  all_goals exact new_lt hv e
def poF10L (a : Fe.E) (b : Fe.E) (u : Fe.E) (aa : Fe.E) (B0 : Nat) : List (Value → World → Prop) := [
  Eq1 (.agg (ev a)),
  Eq1 (.agg (ev aa)),
  Eq1 (.agg (ev b)),
  Eq1 (.agg (ev u)),
  NewB B0 27 #[.int .u64 0, .int .u64 0, .int .u64 0, .int .u64 0, .int .u64 0]]
theorem poF10S (a : Fe.E) (b : Fe.E) (u : Fe.E) (aa : Fe.E) (B0 : Nat) : ∀ j x' q q', (poF10L a b u aa B0).getD j (fun _ _ => True) x' q → Below q.heap.size q q' → (poF10L a b u aa B0).getD j (fun _ _ => True) x' q' := by
  refine sta_all _ ?_
  simp only [poF10L, List.mem_cons, forall_eq_or_imp, List.not_mem_nil, false_implies, implies_true, and_true]
  exact ⟨sta_eq _, sta_eq _, sta_eq _, sta_eq _, sta_new _ _ _⟩
theorem poF10O (a : Fe.E) (b : Fe.E) (u : Fe.E) (aa : Fe.E) (B0 : Nat) : ∀ j x' q, (fun j => j == 4) j = true → (poF10L a b u aa B0).getD j (fun _ _ => True) x' q → ∀ g, x' = .pointer (some ⟨g, 0, none⟩) → g < q.heap.size := by
  intro j x' q hj hv g e
  have hj' : j = 4 := by simpa using hj
  subst hj'
  all_goals exact new_lt hv e
def poF12L (u : Fe.E) (B : Nat → Int) (s2 : Nat → Int) (UU : Nat → Int) : List (Value → World → Prop) := [
  Eq1 (.agg (ev u)),
  Eq1 (.agg (av UU)),
  Eq1 (.agg (av B)),
  Eq1 (.tuple #[.agg (av s2), .bool true]),
  Eq1 (.tuple #[.agg (av s2), .bool true]),
  Eq1 (.agg (av s2)),
  Eq1 (.bool true)]
theorem poF12S (u : Fe.E) (B : Nat → Int) (s2 : Nat → Int) (UU : Nat → Int) : ∀ j x' q q', (poF12L u B s2 UU).getD j (fun _ _ => True) x' q → Below q.heap.size q q' → (poF12L u B s2 UU).getD j (fun _ _ => True) x' q' := by
  refine sta_all _ ?_
  simp only [poF12L, List.mem_cons, forall_eq_or_imp, List.not_mem_nil, false_implies, implies_true, and_true]
  exact ⟨sta_eq _, sta_eq _, sta_eq _, sta_eq _, sta_eq _, sta_eq _, sta_eq _⟩
def poF13L (a : Fe.E) (r2 : Fe.E) (i : Fe.E) (A : Nat → Int) (s2 : Nat → Int) (I : Nat → Int) : List (Value → World → Prop) := [
  Eq1 (.bool true),
  Eq1 (.bool true),
  Eq1 (.bool true),
  Eq1 (.bool true),
  Eq1 (.agg (ev a)),
  Eq1 (.agg (ev i)),
  Eq1 (.agg (av A)),
  Eq1 (.agg (av I)),
  Eq1 (.bool true),
  Eq1 (.bool true),
  Eq1 (.bool true),
  Eq1 (.bool true),
  Eq1 (.bool false),
  Eq1 (.bool false),
  Eq1 (.agg (ev r2)),
  Eq1 (.agg (av s2)),
  Eq1 (.bool true),
  Eq1 (.bool true),
  Eq1 (.bool true),
  Eq1 (.bool true),
  Eq1 (.bool true),
  Eq1 (.bool true),
  Eq1 (.bool true)]
theorem poF13S (a : Fe.E) (r2 : Fe.E) (i : Fe.E) (A : Nat → Int) (s2 : Nat → Int) (I : Nat → Int) : ∀ j x' q q', (poF13L a r2 i A s2 I).getD j (fun _ _ => True) x' q → Below q.heap.size q q' → (poF13L a r2 i A s2 I).getD j (fun _ _ => True) x' q' := by
  refine sta_all _ ?_
  simp only [poF13L, List.mem_cons, forall_eq_or_imp, List.not_mem_nil, false_implies, implies_true, and_true]
  exact ⟨sta_eq _, sta_eq _, sta_eq _, sta_eq _, sta_eq _, sta_eq _, sta_eq _, sta_eq _, sta_eq _, sta_eq _, sta_eq _, sta_eq _, sta_eq _, sta_eq _, sta_eq _, sta_eq _, sta_eq _, sta_eq _, sta_eq _, sta_eq _, sta_eq _, sta_eq _, sta_eq _⟩
set_option maxRecDepth 20000 in
set_option maxHeartbeats 8000000 in
set_option maxRecDepth 100000 in
theorem powers_f (a b r u aa r2 i : Fe.E) (A B s s2 UU I : Nat → Int)
    (cra : ∀ w, Calls Tryz.prog 28 #[.agg (ev a)] w (PostV (.bool true) w))
    (crb : ∀ w, Calls Tryz.prog 28 #[.agg (ev b)] w (PostV (.bool true) w))
    (cfa : ∀ w, Calls Tryz.prog 29 #[.agg (ev a)] w (PostN A w))
    (cfb : ∀ w, Calls Tryz.prog 29 #[.agg (ev b)] w (PostN B w))
    (crt : ∀ w, Calls Tryz.prog 20 #[.agg (ev a), .agg (ev b)] w (PostR r false w))
    (nrt : ∀ w, Calls Tryz.prog 43 #[.agg (av A), .agg (av B)] w (PostR2 s false w))
    (cne : ∀ w, (binOp .neq 27 (.agg #[.int .u64 r.a0, .int .u64 r.a1, .int .u64 r.a2, .int .u64 r.a3, .int .u64 r.a4]) (.agg #[.int .u64 0, .int .u64 0, .int .u64 0, .int .u64 0, .int .u64 0])).run Tryz.prog w = .ok (.bool false) w)
    (csq : ∀ w, Calls Tryz.prog 36 #[.agg (ev a)] w (PostE aa w))
    (cml : ∀ w, Calls Tryz.prog 33 #[.agg (ev aa), .agg (ev b)] w (PostE u w))
    (crt2 : ∀ w, Calls Tryz.prog 20 #[.agg (ev u), .agg (ev b)] w (PostR r2 true w))
    (cfu : ∀ w, Calls Tryz.prog 29 #[.agg (ev u)] w (PostN UU w))
    (nrt2 : ∀ w, Calls Tryz.prog 43 #[.agg (av UU), .agg (av B)] w (PostR2 s2 true w))
    (cinv : ∀ w, Calls Tryz.prog 23 #[.agg (ev a)] w (PostE i w))
    (ninv : ∀ w, Calls Tryz.prog 44 #[.agg (av A)] w (PostN I w))
    (cis2 : ∀ w, Calls Tryz.prog 10 #[.agg (ev i), .agg (av I)] w (PostV (.bool true) w))
    (cis3 : ∀ w, Calls Tryz.prog 10 #[.agg (ev r2), .agg (av s2)] w (PostV (.bool true) w))
    (w : World) : Calls Tryz.prog 15 #[.agg (ev a), .agg (ev b)] w (PostV (.bool true) w) := by
  replace cra := Lib.hid cra
  replace crb := Lib.hid crb
  replace cfa := Lib.hid cfa
  replace cfb := Lib.hid cfb
  replace crt := Lib.hid crt
  replace nrt := Lib.hid nrt
  replace cne := Lib.hid cne
  replace csq := Lib.hid csq
  replace cml := Lib.hid cml
  replace crt2 := Lib.hid crt2
  replace cfu := Lib.hid cfu
  replace nrt2 := Lib.hid nrt2
  replace cinv := Lib.hid cinv
  replace ninv := Lib.hid ninv
  replace cis2 := Lib.hid cis2
  replace cis3 := Lib.hid cis3
  go_enter Tryz.func15, Tryz.ntmps15
  go_wp2_with (refine ldE rfl rfl rfl (e := a) ((Blk.new _ _ _).alloc _) ?_)
  refine calls_at (fun W0 hW => ?_)
  have hA : Blk W0 (w.heap.size) 27 (ev a) := by rw [hW]; exact (Blk.new _ _ _).alloc _
  have hB : Blk W0 (w.heap.size + 1) 27 (ev b) := by rw [hW]; exact blk_at (by simp) (Blk.new _ _ _)
  have hb0 : Below w.heap.size w W0 := by rw [hW]; go_grown
  clear hW
  refine (cra.out _).mono ?_
  rintro e1 w1 ⟨rfl, hbx⟩
  replace hA := hA.below hbx
  replace hB := hB.below hbx
  replace hb0 := hb0.trans (hbx.mono hb0.size)
  clear hbx
  obtain ⟨q0, q1, q2, q3, q4⟩ := blk5 hB
  go_wp2_with fail
  clear q0 q1 q2 q3 q4
  refine (crb.out _).mono ?_
  rintro e1 w2 ⟨rfl, hbx⟩
  replace hA := hA.below hbx
  replace hB := hB.below hbx
  replace hb0 := hb0.trans (hbx.mono hb0.size)
  clear hbx
  go_wp2
  refine wp_region_grow2 6 (fun k => (Nat.ble 5 k && Nat.ble k 6) || (Nat.ble 26 k && Nat.ble k 29)) _ [] (fun j x' q => (poF5L a b A B w2.heap.size).getD j (fun _ _ => True) x' q) (fun j => j == 4 || j == 5) (fun f => #[.agg (ev a), .agg (ev b), .pointer (some ⟨w.heap.size, 0, none⟩), .pointer (some ⟨w.heap.size + 1, 0, none⟩), .bool false, f 5, f 6, undef, undef, undef, undef, undef, .agg (ev a), .bool true, .bool false, .bool false, .agg (ev b), .bool true, .bool false, .bool false, undef, undef, undef, undef, undef, undef, f 26, f 27, f 28, f 29, undef, undef, undef, undef, undef, undef, undef, undef, undef, undef, undef, undef, undef, undef, undef, undef, undef, undef, undef, undef, undef, undef, undef, undef, undef, undef, undef, undef, undef, undef, undef, undef, undef, undef, undef, undef, undef, undef, undef, undef, undef, undef, undef, undef, undef, undef, undef, undef, undef, undef, undef, undef, undef, undef, undef, undef, undef, undef, undef, undef, undef, undef, undef, undef, undef, undef, undef, undef, undef, undef, undef, undef]) (fun f => rfl) (by kernel_rfl) (by kernel_rfl) (by kernel_rfl) (by kernel_rfl) (by kernel_rfl) (poF5S _ _ _ _ _) (poF5O _ _ _ _ _) ?_ ?_
  · refine steps2_cons ?_ ?_
    · as_aux_lemma =>
      intro f w1 hb hd Q hK
      clear hd
      have hK := Lib.hid hK
      refine ldE rfl rfl rfl (hA.below hb) ?_
      go_wp2
      exact hK.out _ _ rfl (Below.refl _ _) (fun h => by cases h)
    refine steps2_cons ?_ ?_
    · as_aux_lemma =>
      intro f w1 hb hd Q hK
      have e26 : f 26 = .agg (ev a) := hd.1 rfl
      clear hd
      simp only [e26] at hK
      have hK := Lib.hid hK
      go_wp2_with fail
      refine (cfa.out _).mono ?_
      rintro e w2 ⟨rfl, hb2⟩
      go_wp2
      exact hK.out _ _ rfl hb2 (fun h => by cases h)
    refine steps2_cons ?_ ?_
    · as_aux_lemma =>
      intro f w1 hb hd Q hK
      clear hd
      have hK := Lib.hid hK
      refine ldE rfl rfl rfl (hB.below hb) ?_
      go_wp2
      exact hK.out _ _ rfl (Below.refl _ _) (fun h => by cases h)
    refine steps2_cons ?_ ?_
    · as_aux_lemma =>
      intro f w1 hb hd Q hK
      have e28 : f 28 = .agg (ev b) := hd.1 rfl
      clear hd
      simp only [e28] at hK
      have hK := Lib.hid hK
      go_wp2_with fail
      refine (cfb.out _).mono ?_
      rintro e w2 ⟨rfl, hb2⟩
      go_wp2
      exact hK.out _ _ rfl hb2 (fun h => by cases h)
    refine steps2_cons ?_ ?_
    · as_aux_lemma =>
      intro f w1 hb hd Q hK
      clear hd
      have hK := Lib.hid hK
      have hsz := hb.size
      go_wp2
      exact hK.out _ _ ⟨_, rfl, hsz, Blk.new _ _ _⟩ ((Below.refl _ _).alloc (Nat.le_refl _) _) (fun _ => ⟨_, rfl, Nat.le_refl _⟩)
    refine steps2_cons ?_ ?_
    · as_aux_lemma =>
      intro f w1 hb hd Q hK
      clear hd
      have hK := Lib.hid hK
      have hsz := hb.size
      go_wp2
      exact hK.out _ _ ⟨_, rfl, hsz, Blk.new _ _ _⟩ ((Below.refl _ _).alloc (Nat.le_refl _) _) (fun _ => ⟨_, rfl, Nat.le_refl _⟩)
    trivial
  · intro f1 y1 hb hf hne
    obtain ⟨g5, d5, lo5, bk5⟩ : NewB w2.heap.size 31 #[.int .u64 0, .int .u64 0, .int .u64 0, .int .u64 0, .int .u64 0, .int .u64 0, .int .u64 0, .int .u64 0, .int .u64 0, .int .u64 0, .int .u64 0, .int .u64 0, .int .u64 0, .int .u64 0, .int .u64 0, .int .u64 0] (f1 5) y1 := hf 4 _ _ (by decide) rfl rfl
    obtain ⟨g6, d6, lo6, bk6⟩ : NewB w2.heap.size 31 #[.int .u64 0, .int .u64 0, .int .u64 0, .int .u64 0, .int .u64 0, .int .u64 0, .int .u64 0, .int .u64 0, .int .u64 0, .int .u64 0, .int .u64 0, .int .u64 0, .int .u64 0, .int .u64 0, .int .u64 0, .int .u64 0] (f1 6) y1 := hf 5 _ _ (by decide) rfl rfl
    have d27 : f1 27 = .agg (av A) := hf 1 _ _ (by decide) rfl rfl
    have d29 : f1 29 = .agg (av B) := hf 3 _ _ (by decide) rfl rfl
    have hne' : g5 ≠ g6 := by
      have := hne 4 5 _ _ _ _ (by decide) (by decide) (by decide) rfl rfl rfl rfl rfl rfl
      rw [d5, d6] at this
      exact fun h => this (by rw [h])
    clear hf hne
    simp only [d5, d6, d27, d29]
    have Hlt0 := Lib.hid hA.lt
    have Hlt1 := Lib.hid hB.lt
    refine stN (old := fun _ => 0) rfl rfl rfl rfl bk5 ?_
    intro w3 hX hgr hsz
    replace hA := (hA.below hb).grown hgr (fun hh => by injection hh with hh; have := hA.lt; omega)
    replace hB := (hB.below hb).grown hgr (fun hh => by injection hh with hh; have := hB.lt; omega)
    replace hb0 := (hb0.trans (hb.mono hb0.size)).grown hgr (Nat.le_trans hb0.size hb.size) (fun k hk => by injection hk with hk; have := hb0.size; omega)
    replace bk6 := bk6.grown hgr (fun h => hne' (by injection h with h; exact h.symm))
    clear hgr hsz hb
    refine stN (old := fun _ => 0) rfl rfl rfl rfl bk6 ?_
    intro w4 hY hgr hsz
    replace hA := hA.grown hgr (fun hh => by injection hh with hh; have := lo6; have := Hlt0.out; omega)
    replace hB := hB.grown hgr (fun hh => by injection hh with hh; have := lo6; have := Hlt1.out; omega)
    replace hX := hX.grown hgr (fun h => hne' (by injection h))
    replace hb0 := hb0.grown hgr hb0.size (fun k hk => by injection hk with hk; have := lo6; have := Hlt1.out; omega)
    clear hgr hsz bk5 d5 d6 d27 d29
    refine wpList_nil ?_
    go_wp2_with (first | (refine ldE rfl rfl rfl hA ?_) | (refine ldE rfl rfl rfl hB ?_))
    refine (crt.out _).mono ?_
    rintro e1 w5 ⟨rfl, hbx⟩
    replace hA := hA.below hbx
    replace hB := hB.below hbx
    replace hX := hX.below hbx
    replace hY := hY.below hbx
    replace hb0 := hb0.trans (hbx.mono hb0.size)
    clear hbx
    have HBXhR := hb0.size
    have hAlt := hA.lt
    have hBlt := hB.lt
    have hXlt := hX.lt
    have hYlt := hY.lt
    go_wp2_with (first | (refine stE (old := ⟨0, 0, 0, 0, 0⟩) rfl rfl rfl (e := r) rfl (Blk.new _ _ _) ?_; intro w6 hR hgr hsz; replace hA := (hA.alloc _).grown hgr (fun hh => by injection hh with hh; omega); replace hB := (hB.alloc _).grown hgr (fun hh => by injection hh with hh; omega); replace hX := (hX.alloc _).grown hgr (fun hh => by injection hh with hh; omega); replace hY := (hY.alloc _).grown hgr (fun hh => by injection hh with hh; omega); replace hb0 := (hb0.alloc hb0.size _).grown hgr (Nat.le_trans hb0.size (by simp)) (fun k hk => by injection hk with hk; have := hb0.size; omega); clear hgr hsz) | (refine ldN rfl rfl rfl hX ?_) | (refine ldN rfl rfl rfl hY ?_))
    have HNhRhA := Lib.hid (show w.heap.size ≠ w5.heap.size from by omega)
    have HNhRhB := Lib.hid (show w.heap.size + 1 ≠ w5.heap.size from by omega)
    have HNhRhX := Lib.hid (show g5 ≠ w5.heap.size from by omega)
    have HNhRhY := Lib.hid (show g6 ≠ w5.heap.size from by omega)
    clear hAlt hBlt hXlt hYlt
    have HBhR := Lib.hid (show w.heap.size ≤ w5.heap.size from HBXhR)
    clear HBXhR
    generalize w5.heap.size = g7 at *
    refine (nrt.out _).mono ?_
    rintro e1 w7 ⟨rfl, hbx⟩
    replace hA := hA.below hbx
    replace hB := hB.below hbx
    replace hX := hX.below hbx
    replace hY := hY.below hbx
    replace hR := hR.below hbx
    replace hb0 := hb0.trans (hbx.mono hb0.size)
    clear hbx
    have HBXhS := hb0.size
    have hAlt := hA.lt
    have hBlt := hB.lt
    have hXlt := hX.lt
    have hYlt := hY.lt
    have hRlt := hR.lt
    go_wp2_with (first | (refine stN (old := fun _ => 0) rfl rfl rfl (f := s) rfl (Blk.new _ _ _) ?_; intro w8 hS hgr hsz; replace hA := (hA.alloc _).grown hgr (fun hh => by injection hh with hh; omega); replace hB := (hB.alloc _).grown hgr (fun hh => by injection hh with hh; omega); replace hX := (hX.alloc _).grown hgr (fun hh => by injection hh with hh; omega); replace hY := (hY.alloc _).grown hgr (fun hh => by injection hh with hh; omega); replace hR := (hR.alloc _).grown hgr (fun hh => by injection hh with hh; omega); replace hb0 := (hb0.alloc hb0.size _).grown hgr (Nat.le_trans hb0.size (by simp)) (fun k hk => by injection hk with hk; have := hb0.size; omega); clear hgr hsz; obtain ⟨p0, p1, p2, p3, p4⟩ := blk5 hR; have cn := cne.out))
    have HNhShA := Lib.hid (show w.heap.size ≠ w7.heap.size from by omega)
    have HNhShB := Lib.hid (show w.heap.size + 1 ≠ w7.heap.size from by omega)
    have HNhShX := Lib.hid (show g5 ≠ w7.heap.size from by omega)
    have HNhShY := Lib.hid (show g6 ≠ w7.heap.size from by omega)
    have HNhShR := Lib.hid (show g7 ≠ w7.heap.size from by omega)
    clear hAlt hBlt hXlt hYlt hRlt
    have HBhS := Lib.hid (show w.heap.size ≤ w7.heap.size from HBXhS)
    clear HBXhS
    generalize w7.heap.size = g9 at *
    clear p0 p1 p2 p3 p4 cn
    refine wp_region_grow2 5 (fun k => Nat.beq k 11 || (Nat.ble 63 k && Nat.ble k 66)) _ [] (fun j x' q => (poF10L a b u aa w8.heap.size).getD j (fun _ _ => True) x' q) (fun j => j == 4) (fun f => #[.agg (ev a), .agg (ev b), .pointer (some ⟨w.heap.size, 0, none⟩), .pointer (some ⟨w.heap.size + 1, 0, none⟩), .bool false, .pointer (some ⟨g5, 0, none⟩), .pointer (some ⟨g6, 0, none⟩), .pointer (some ⟨g7, 0, none⟩), .bool false, .pointer (some ⟨g9, 0, none⟩), .bool false, f 11, .agg (ev a), .bool true, .bool false, .bool false, .agg (ev b), .bool true, .bool false, .bool false, undef, undef, undef, undef, undef, undef, f1 26, .agg (av A), f1 28, .agg (av B), .tuple #[.agg (ev r), .bool false], .agg (ev a), .agg (ev b), .tuple #[.agg (ev r), .bool false], .agg (ev r), .bool false, .tuple #[.agg (av s), .bool false], .agg (av A), .agg (av B), .tuple #[.agg (av s), .bool false], .agg (av s), .bool false, .bool false, .bool false, .bool false, .bool false, .bool false, .bool false, undef, undef, undef, undef, .bool false, .bool false, .bool false, .bool false, .bool true, .bool true, .agg (ev r), .agg #[.int .u64 0, .int .u64 0, .int .u64 0, .int .u64 0, .int .u64 0], .bool false, .bool false, .bool false, f 63, f 64, f 65, f 66, undef, undef, undef, undef, undef, undef, undef, undef, undef, undef, undef, undef, undef, undef, undef, undef, undef, undef, undef, undef, undef, undef, undef, undef, undef, undef, undef, undef, undef, undef, undef, undef, undef, undef, undef]) (fun f => rfl) (by kernel_rfl) (by kernel_rfl) (by kernel_rfl) (by kernel_rfl) (by kernel_rfl) (poF10S _ _ _ _ _) (poF10O _ _ _ _ _) ?_ ?_
    · refine steps2_cons ?_ ?_
      · as_aux_lemma =>
        intro f w1 hb hd Q hK
        clear hd
        have hK := Lib.hid hK
        refine ldE rfl rfl rfl (hA.below hb) ?_
        go_wp2
        exact hK.out _ _ rfl (Below.refl _ _) (fun h => by cases h)
      refine steps2_cons ?_ ?_
      · as_aux_lemma =>
        intro f w1 hb hd Q hK
        have e63 : f 63 = .agg (ev a) := hd.1 rfl
        clear hd
        simp only [e63] at hK
        have hK := Lib.hid hK
        go_wp2_with fail
        refine (csq.out _).mono ?_
        rintro e w2 ⟨rfl, hb2⟩
        go_wp2
        exact hK.out _ _ rfl hb2 (fun h => by cases h)
      refine steps2_cons ?_ ?_
      · as_aux_lemma =>
        intro f w1 hb hd Q hK
        clear hd
        have hK := Lib.hid hK
        refine ldE rfl rfl rfl (hB.below hb) ?_
        go_wp2
        exact hK.out _ _ rfl (Below.refl _ _) (fun h => by cases h)
      refine steps2_cons ?_ ?_
      · as_aux_lemma =>
        intro f w1 hb hd Q hK
        have e64 : f 64 = .agg (ev aa) := hd.1 rfl
        have e65 : f 65 = .agg (ev b) := hd.2.1 rfl
        clear hd
        simp only [e64, e65] at hK
        have hK := Lib.hid hK
        go_wp2_with fail
        refine (cml.out _).mono ?_
        rintro e w2 ⟨rfl, hb2⟩
        go_wp2
        exact hK.out _ _ rfl hb2 (fun h => by cases h)
      refine steps2_cons ?_ ?_
      · as_aux_lemma =>
        intro f w1 hb hd Q hK
        clear hd
        have hK := Lib.hid hK
        have hsz := hb.size
        go_wp2
        exact hK.out _ _ ⟨_, rfl, hsz, Blk.new _ _ _⟩ ((Below.refl _ _).alloc (Nat.le_refl _) _) (fun _ => ⟨_, rfl, Nat.le_refl _⟩)
      trivial
    · intro f2 y2 hb hf hne
      obtain ⟨g11, d11, lo11, bk11⟩ : NewB w8.heap.size 27 #[.int .u64 0, .int .u64 0, .int .u64 0, .int .u64 0, .int .u64 0] (f2 11) y2 := hf 4 _ _ (by decide) rfl rfl
      have d66 : f2 66 = .agg (ev u) := hf 3 _ _ (by decide) rfl rfl
      clear hf hne
      simp only [d11, d66]
      refine stE (old := ⟨0, 0, 0, 0, 0⟩) rfl rfl rfl rfl bk11 ?_
      intro v2 hU hgr hsz
      have HNhUhR := Lib.hid (show g7 ≠ g11 from by have := hR.lt; omega)
      have HNhUhS := Lib.hid (show g9 ≠ g11 from by have := hS.lt; omega)
      have HBhU := Lib.hid (show w.heap.size ≤ g11 from by have := hb0.size; omega)
      replace hA := (hA.below hb).grown hgr (fun hh => by injection hh with hh; have := hA.lt; omega)
      replace hB := (hB.below hb).grown hgr (fun hh => by injection hh with hh; have := hB.lt; omega)
      replace hX := (hX.below hb).grown hgr (fun hh => by injection hh with hh; have := hX.lt; omega)
      replace hY := (hY.below hb).grown hgr (fun hh => by injection hh with hh; have := hY.lt; omega)
      replace hR := (hR.below hb).grown hgr (fun hh => by injection hh with hh; have := hR.lt; omega)
      replace hS := (hS.below hb).grown hgr (fun hh => by injection hh with hh; have := hS.lt; omega)
      replace hb0 := (hb0.trans (hb.mono hb0.size)).grown hgr (Nat.le_trans hb0.size hb.size) (fun k hk => by injection hk with hk; have := hb0.size; omega)
      clear hgr hsz hb bk11 d11 d66
      refine wpList_nil ?_
      go_wp2_with (first | (refine ldE rfl rfl rfl hU ?_) | (refine ldE rfl rfl rfl hB ?_))
      refine (crt2.out _).mono ?_
      rintro e1 w11 ⟨rfl, hbx⟩
      replace hA := hA.below hbx
      replace hB := hB.below hbx
      replace hX := hX.below hbx
      replace hY := hY.below hbx
      replace hR := hR.below hbx
      replace hS := hS.below hbx
      replace hU := hU.below hbx
      replace hb0 := hb0.trans (hbx.mono hb0.size)
      clear hbx
      go_wp2_with (refine stE rfl rfl rfl (e := r2) rfl hR ?_; intro w12 hR2 hgr hsz; replace hA := hA.grown hgr (fun hh => HNhRhA.out (by injection hh)); replace hB := hB.grown hgr (fun hh => HNhRhB.out (by injection hh)); replace hX := hX.grown hgr (fun hh => HNhRhX.out (by injection hh)); replace hY := hY.grown hgr (fun hh => HNhRhY.out (by injection hh)); replace hS := hS.grown hgr (fun hh => HNhShR.out (by injection hh with hh; exact hh.symm)); replace hU := hU.grown hgr (fun hh => HNhUhR.out (by injection hh with hh; exact hh.symm)); replace hb0 := hb0.grown hgr hb0.size (fun k hk => by injection hk with hk; have := HBhR.out; omega); clear hgr hsz)
      clear hR
      have hR := hR2
      clear hR2
      go_cut [10] from 300 (fun c wx => c = .bool true ∧ Blk wx (w.heap.size) 27 (ev a) ∧ Blk wx (w.heap.size + 1) 27 (ev b) ∧ Blk wx (g5) 31 (av A) ∧ Blk wx (g6) 31 (av B) ∧ Blk wx (g7) 27 (ev r2) ∧ Blk wx (g9) 31 (av s2) ∧ Blk wx (g11) 27 (ev u) ∧ Below w.heap.size w wx)
      case first =>
        refine wp_region_grow3 7 6 (fun k => (Nat.ble 73 k && Nat.ble k 79)) _ [] (fun j x' q => (poF12L u B s2 UU).getD j (fun _ _ => True) x' q) (fun _ => false) (fun f => #[.agg (ev a), .agg (ev b), .pointer (some ⟨w.heap.size, 0, none⟩), .pointer (some ⟨w.heap.size + 1, 0, none⟩), .bool false, .pointer (some ⟨g5, 0, none⟩), .pointer (some ⟨g6, 0, none⟩), .pointer (some ⟨g7, 0, none⟩), .bool true, .pointer (some ⟨g9, 0, none⟩), .bool false, .pointer (some ⟨g11, 0, none⟩), .agg (ev a), .bool true, .bool false, .bool false, .agg (ev b), .bool true, .bool false, .bool false, undef, undef, undef, undef, undef, undef, f1 26, .agg (av A), f1 28, .agg (av B), .tuple #[.agg (ev r), .bool false], .agg (ev a), .agg (ev b), .tuple #[.agg (ev r), .bool false], .agg (ev r), .bool false, .tuple #[.agg (av s), .bool false], .agg (av A), .agg (av B), .tuple #[.agg (av s), .bool false], .agg (av s), .bool false, .bool false, .bool false, .bool false, .bool false, .bool false, .bool false, undef, undef, undef, undef, .bool false, .bool false, .bool false, .bool false, .bool true, .bool true, .agg (ev r), .agg #[.int .u64 0, .int .u64 0, .int .u64 0, .int .u64 0, .int .u64 0], .bool false, .bool false, .bool false, f2 63, f2 64, f2 65, .agg (ev u), .tuple #[.agg (ev r2), .bool true], .agg (ev u), .agg (ev b), .tuple #[.agg (ev r2), .bool true], .agg (ev r2), .bool true, f 73, f 74, f 75, f 76, f 77, f 78, f 79, undef, undef, undef, undef, undef, undef, undef, undef, undef, undef, undef, undef, undef, undef, undef, undef, undef, undef, undef, undef, undef, undef]) (fun f => rfl) (by decide) (by kernel_rfl) (by kernel_rfl) (by kernel_rfl) (by kernel_rfl) (by kernel_rfl) (poF12S _ _ _ _) ?_ ?_ ?_
        · refine steps2_cons ?_ ?_
          · as_aux_lemma =>
            intro f w1 hb hd Q hK
            clear hd
            have hK := Lib.hid hK
            refine ldE rfl rfl rfl (hU.below hb) ?_
            go_wp2
            exact hK.out _ _ rfl (Below.refl _ _) (fun h => by cases h)
          refine steps2_cons ?_ ?_
          · as_aux_lemma =>
            intro f w1 hb hd Q hK
            have e74 : f 74 = .agg (ev u) := hd.1 rfl
            clear hd
            simp only [e74] at hK
            have hK := Lib.hid hK
            go_wp2_with fail
            refine (cfu.out _).mono ?_
            rintro e w2 ⟨rfl, hb2⟩
            go_wp2
            exact hK.out _ _ rfl hb2 (fun h => by cases h)
          refine steps2_cons ?_ ?_
          · as_aux_lemma =>
            intro f w1 hb hd Q hK
            clear hd
            have hK := Lib.hid hK
            refine ldN rfl rfl rfl (hY.below hb) ?_
            go_wp2
            exact hK.out _ _ rfl (Below.refl _ _) (fun h => by cases h)
          refine steps2_cons ?_ ?_
          · as_aux_lemma =>
            intro f w1 hb hd Q hK
            have e75 : f 75 = .agg (av UU) := hd.1 rfl
            have e76 : f 76 = .agg (av B) := hd.2.1 rfl
            clear hd
            simp only [e75, e76] at hK
            have hK := Lib.hid hK
            go_wp2_with fail
            refine (nrt2.out _).mono ?_
            rintro e w2 ⟨rfl, hb2⟩
            go_wp2
            exact hK.out _ _ rfl hb2 (fun h => by cases h)
          refine steps2_cons ?_ ?_
          · as_aux_lemma =>
            intro f w1 hb hd Q hK
            have e77 : f 77 = .tuple #[.agg (av s2), .bool true] := hd.1 rfl
            clear hd
            simp only [e77] at hK
            have hK := Lib.hid hK
            go_wp2
            exact hK.out _ _ rfl (Below.refl _ _) (fun h => by cases h)
          refine steps2_cons ?_ ?_
          · as_aux_lemma =>
            intro f w1 hb hd Q hK
            have e73 : f 73 = .tuple #[.agg (av s2), .bool true] := hd.1 rfl
            clear hd
            simp only [e73] at hK
            have hK := Lib.hid hK
            go_wp2
            exact hK.out _ _ rfl (Below.refl _ _) (fun h => by cases h)
          refine steps2_cons ?_ ?_
          · as_aux_lemma =>
            intro f w1 hb hd Q hK
            have e73 : f 73 = .tuple #[.agg (av s2), .bool true] := hd.1 rfl
            clear hd
            simp only [e73] at hK
            have hK := Lib.hid hK
            go_wp2
            exact hK.out _ _ rfl (Below.refl _ _) (fun h => by cases h)
          trivial
        · intro f w1 hb hf
          have d78 : f 78 = .agg (av s2) := hf 5 _ _ (by decide) rfl rfl
          have d79 : f 79 = .bool true := hf 6 _ _ (by decide) rfl rfl
          clear hf
          simp only [d78, d79]
          refine stN rfl rfl rfl (f := s2) rfl (hS.below hb) ?_
          intro w13 hS2 hgr hsz
          replace hA := (hA.below hb).grown hgr (fun hh => HNhShA.out (by injection hh))
          replace hB := (hB.below hb).grown hgr (fun hh => HNhShB.out (by injection hh))
          replace hX := (hX.below hb).grown hgr (fun hh => HNhShX.out (by injection hh))
          replace hY := (hY.below hb).grown hgr (fun hh => HNhShY.out (by injection hh))
          replace hR := (hR.below hb).grown hgr (fun hh => HNhShR.out (by injection hh))
          replace hU := (hU.below hb).grown hgr (fun hh => HNhUhS.out (by injection hh with hh; exact hh.symm))
          replace hb0 := (hb0.trans (hb.mono hb0.size)).grown hgr (Nat.le_trans hb0.size hb.size) (fun k hk => by injection hk with hk; have := HBhS.out; omega)
          clear hgr hsz hb
          go_wp2
          go_meet
          case rel => exact ⟨rfl, hA, hB, hX, hY, hR, hS2, hU, hb0⟩
        · intro f w1 hb hf on oe hon hoe
          cases hon
          cases hoe
          have d73 : f 73 = .tuple #[.agg (av s2), .bool true] := hf 4 _ _ (by decide) (by decide) rfl rfl
          have d78 : f 78 = .agg (av s2) := hf 5 _ _ (by decide) (by decide) rfl rfl
          clear hf
          simp only [d73, d78]
          refine stN rfl rfl rfl (f := s2) rfl (hS.below hb) ?_
          intro w13 hS2 hgr hsz
          replace hA := (hA.below hb).grown hgr (fun hh => HNhShA.out (by injection hh))
          replace hB := (hB.below hb).grown hgr (fun hh => HNhShB.out (by injection hh))
          replace hX := (hX.below hb).grown hgr (fun hh => HNhShX.out (by injection hh))
          replace hY := (hY.below hb).grown hgr (fun hh => HNhShY.out (by injection hh))
          replace hR := (hR.below hb).grown hgr (fun hh => HNhShR.out (by injection hh))
          replace hU := (hU.below hb).grown hgr (fun hh => HNhUhS.out (by injection hh with hh; exact hh.symm))
          replace hb0 := (hb0.trans (hb.mono hb0.size)).grown hgr (Nat.le_trans hb0.size hb.size) (fun k hk => by injection hk with hk; have := HBhS.out; omega)
          clear hgr hsz hb
          go_wp2
          go_meet
          case rel => exact ⟨rfl, hA, hB, hX, hY, hR, hS2, hU, hb0⟩
      case rest =>
        clear hA hB hX hY hR hS hU hb0
        obtain ⟨hc, hA, hB, hX, hY, hR, hS, hU, hb0⟩ := hcut
        subst hc
        go_wp2
        refine wp_region_grow2 23 (fun k => Nat.beq k 4 || (Nat.ble 80 k && Nat.ble k 101)) _ [] (fun j x' q => (poF13L a r2 i A s2 I).getD j (fun _ _ => True) x' q) (fun _ => false) (fun f => #[.agg (ev a), .agg (ev b), .pointer (some ⟨w.heap.size, 0, none⟩), .pointer (some ⟨w.heap.size + 1, 0, none⟩), f 4, .pointer (some ⟨g5, 0, none⟩), .pointer (some ⟨g6, 0, none⟩), .pointer (some ⟨g7, 0, none⟩), .bool true, .pointer (some ⟨g9, 0, none⟩), .bool true, .pointer (some ⟨g11, 0, none⟩), .agg (ev a), .bool true, .bool false, .bool false, .agg (ev b), .bool true, .bool false, .bool false, undef, undef, undef, undef, undef, undef, f1 26, .agg (av A), f1 28, .agg (av B), .tuple #[.agg (ev r), .bool false], .agg (ev a), .agg (ev b), .tuple #[.agg (ev r), .bool false], .agg (ev r), .bool false, .tuple #[.agg (av s), .bool false], .agg (av A), .agg (av B), .tuple #[.agg (av s), .bool false], .agg (av s), .bool false, .bool false, .bool false, .bool false, .bool false, .bool false, .bool false, undef, undef, undef, undef, .bool false, .bool false, .bool false, .bool false, .bool true, .bool true, .agg (ev r), .agg #[.int .u64 0, .int .u64 0, .int .u64 0, .int .u64 0, .int .u64 0], .bool false, .bool false, .bool false, f2 63, f2 64, f2 65, .agg (ev u), .tuple #[.agg (ev r2), .bool true], .agg (ev u), .agg (ev b), .tuple #[.agg (ev r2), .bool true], .agg (ev r2), .bool true, u73, u74, u75, u76, u77, u78, u79, f 80, f 81, f 82, f 83, f 84, f 85, f 86, f 87, f 88, f 89, f 90, f 91, f 92, f 93, f 94, f 95, f 96, f 97, f 98, f 99, f 100, f 101]) (fun f => rfl) (by kernel_rfl) (by kernel_rfl) (by kernel_rfl) (by kernel_rfl) (by kernel_rfl) (poF13S _ _ _ _ _ _) (fun _ _ _ h => by cases h) ?_ ?_
        · refine steps2_cons ?_ ?_
          · as_aux_lemma =>
            intro f w1 hb hd Q hK
            clear hd
            have hK := Lib.hid hK
            go_wp2
            exact hK.out _ _ rfl (Below.refl _ _) (fun h => by cases h)
          refine steps2_cons ?_ ?_
          · as_aux_lemma =>
            intro f w1 hb hd Q hK
            clear hd
            have hK := Lib.hid hK
            go_wp2
            exact hK.out _ _ rfl (Below.refl _ _) (fun h => by cases h)
          refine steps2_cons ?_ ?_
          · as_aux_lemma =>
            intro f w1 hb hd Q hK
            have e80 : f 80 = .bool true := hd.1 rfl
            have e81 : f 81 = .bool true := hd.2.1 rfl
            clear hd
            simp only [e80, e81] at hK
            have hK := Lib.hid hK
            go_wp2
            exact hK.out _ _ rfl (Below.refl _ _) (fun h => by cases h)
          refine steps2_cons ?_ ?_
          · as_aux_lemma =>
            intro f w1 hb hd Q hK
            have e82 : f 82 = .bool true := hd.1 rfl
            clear hd
            simp only [e82] at hK
            have hK := Lib.hid hK
            go_wp2
            exact hK.out _ _ rfl (Below.refl _ _) (fun h => by cases h)
          refine steps2_cons ?_ ?_
          · as_aux_lemma =>
            intro f w1 hb hd Q hK
            have e83 : f 83 = .bool true := hd.1 rfl
            clear hd
            simp only [e83] at hK
            have hK := Lib.hid hK
            obtain ⟨c0, c1, c2, c3, c4⟩ := blk5 (hA.below hb)
            go_wp2
            exact hK.out _ _ rfl (Below.refl _ _) (fun h => by cases h)
          refine steps2_cons ?_ ?_
          · as_aux_lemma =>
            intro f w1 hb hd Q hK
            have e84 : f 84 = .agg (ev a) := hd.1 rfl
            have e83 : f 83 = .bool true := hd.2.1 rfl
            clear hd
            simp only [e84, e83] at hK
            have hK := Lib.hid hK
            go_wp2_with fail
            refine (cinv.out _).mono ?_
            rintro e w2 ⟨rfl, hb2⟩
            go_wp2
            exact hK.out _ _ rfl hb2 (fun h => by cases h)
          refine steps2_cons ?_ ?_
          · as_aux_lemma =>
            intro f w1 hb hd Q hK
            have e83 : f 83 = .bool true := hd.1 rfl
            clear hd
            simp only [e83] at hK
            have hK := Lib.hid hK
            obtain ⟨c0, c1, c2, c3, c4, c5, c6, c7, c8, c9, c10, c11, c12, c13, c14, c15⟩ := blk16 (hX.below hb)
            go_wp2
            exact hK.out _ _ rfl (Below.refl _ _) (fun h => by cases h)
          refine steps2_cons ?_ ?_
          · as_aux_lemma =>
            intro f w1 hb hd Q hK
            have e86 : f 86 = .agg (av A) := hd.1 rfl
            have e83 : f 83 = .bool true := hd.2.2.1 rfl
            clear hd
            simp only [e86, e83] at hK
            have hK := Lib.hid hK
            go_wp2_with fail
            refine (ninv.out _).mono ?_
            rintro e w2 ⟨rfl, hb2⟩
            go_wp2
            exact hK.out _ _ rfl hb2 (fun h => by cases h)
          refine steps2_cons ?_ ?_
          · as_aux_lemma =>
            intro f w1 hb hd Q hK
            have e85 : f 85 = .agg (ev i) := hd.1 rfl
            have e87 : f 87 = .agg (av I) := hd.2.1 rfl
            have e83 : f 83 = .bool true := hd.2.2.2.1 rfl
            clear hd
            simp only [e85, e87, e83] at hK
            have hK := Lib.hid hK
            go_wp2_with fail
            refine (cis2.out _).mono ?_
            rintro e w2 ⟨rfl, hb2⟩
            go_wp2
            exact hK.out _ _ rfl hb2 (fun h => by cases h)
          refine steps2_cons ?_ ?_
          · as_aux_lemma =>
            intro f w1 hb hd Q hK
            have e83 : f 83 = .bool true := hd.1 rfl
            have e88 : f 88 = .bool true := hd.2.1 rfl
            clear hd
            simp only [e83, e88] at hK
            have hK := Lib.hid hK
            go_wp2
            exact hK.out _ _ rfl (Below.refl _ _) (fun h => by cases h)
          refine steps2_cons ?_ ?_
          · as_aux_lemma =>
            intro f w1 hb hd Q hK
            have e89 : f 89 = .bool true := hd.1 rfl
            clear hd
            simp only [e89] at hK
            have hK := Lib.hid hK
            go_wp2
            exact hK.out _ _ rfl (Below.refl _ _) (fun h => by cases h)
          refine steps2_cons ?_ ?_
          · as_aux_lemma =>
            intro f w1 hb hd Q hK
            have e90 : f 90 = .bool true := hd.1 rfl
            clear hd
            simp only [e90] at hK
            have hK := Lib.hid hK
            go_wp2
            exact hK.out _ _ rfl (Below.refl _ _) (fun h => by cases h)
          refine steps2_cons ?_ ?_
          · as_aux_lemma =>
            intro f w1 hb hd Q hK
            have e91 : f 91 = .bool true := hd.1 rfl
            have e90 : f 90 = .bool true := hd.2.1 rfl
            clear hd
            simp only [e91, e90] at hK
            have hK := Lib.hid hK
            go_wp2
            exact hK.out _ _ rfl (Below.refl _ _) (fun h => by cases h)
          refine steps2_cons ?_ ?_
          · as_aux_lemma =>
            intro f w1 hb hd Q hK
            have e92 : f 92 = .bool false := hd.1 rfl
            have e90 : f 90 = .bool true := hd.2.1 rfl
            clear hd
            simp only [e92, e90] at hK
            have hK := Lib.hid hK
            go_wp2
            exact hK.out _ _ rfl (Below.refl _ _) (fun h => by cases h)
          refine steps2_cons ?_ ?_
          · as_aux_lemma =>
            intro f w1 hb hd Q hK
            have e93 : f 93 = .bool false := hd.1 rfl
            clear hd
            simp only [e93] at hK
            have hK := Lib.hid hK
            obtain ⟨c0, c1, c2, c3, c4⟩ := blk5 (hR.below hb)
            go_wp2
            exact hK.out _ _ rfl (Below.refl _ _) (fun h => by cases h)
          refine steps2_cons ?_ ?_
          · as_aux_lemma =>
            intro f w1 hb hd Q hK
            have e93 : f 93 = .bool false := hd.1 rfl
            clear hd
            simp only [e93] at hK
            have hK := Lib.hid hK
            obtain ⟨c0, c1, c2, c3, c4, c5, c6, c7, c8, c9, c10, c11, c12, c13, c14, c15⟩ := blk16 (hS.below hb)
            go_wp2
            exact hK.out _ _ rfl (Below.refl _ _) (fun h => by cases h)
          refine steps2_cons ?_ ?_
          · as_aux_lemma =>
            intro f w1 hb hd Q hK
            have e94 : f 94 = .agg (ev r2) := hd.1 rfl
            have e95 : f 95 = .agg (av s2) := hd.2.1 rfl
            have e93 : f 93 = .bool false := hd.2.2.1 rfl
            clear hd
            simp only [e94, e95, e93] at hK
            have hK := Lib.hid hK
            go_wp2_with fail
            refine (cis3.out _).mono ?_
            rintro e w2 ⟨rfl, hb2⟩
            go_wp2
            exact hK.out _ _ rfl hb2 (fun h => by cases h)
          refine steps2_cons ?_ ?_
          · as_aux_lemma =>
            intro f w1 hb hd Q hK
            have e93 : f 93 = .bool false := hd.1 rfl
            have e96 : f 96 = .bool true := hd.2.1 rfl
            have e90 : f 90 = .bool true := hd.2.2.1 rfl
            clear hd
            simp only [e93, e96, e90] at hK
            have hK := Lib.hid hK
            go_wp2
            exact hK.out _ _ rfl (Below.refl _ _) (fun h => by cases h)
          refine steps2_cons ?_ ?_
          · as_aux_lemma =>
            intro f w1 hb hd Q hK
            have e90 : f 90 = .bool true := hd.1 rfl
            have e97 : f 97 = .bool true := hd.2.1 rfl
            clear hd
            simp only [e90, e97] at hK
            have hK := Lib.hid hK
            go_wp2
            exact hK.out _ _ rfl (Below.refl _ _) (fun h => by cases h)
          refine steps2_cons ?_ ?_
          · as_aux_lemma =>
            intro f w1 hb hd Q hK
            have e98 : f 98 = .bool true := hd.1 rfl
            clear hd
            simp only [e98] at hK
            have hK := Lib.hid hK
            go_wp2
            exact hK.out _ _ rfl (Below.refl _ _) (fun h => by cases h)
          refine steps2_cons ?_ ?_
          · as_aux_lemma =>
            intro f w1 hb hd Q hK
            have e99 : f 99 = .bool true := hd.1 rfl
            clear hd
            simp only [e99] at hK
            have hK := Lib.hid hK
            go_wp2_with fail
            refine (awake_c _).mono ?_
            rintro e w2 ⟨rfl, hb2⟩
            go_wp2
            exact hK.out _ _ rfl hb2 (fun h => by cases h)
          refine steps2_cons ?_ ?_
          · as_aux_lemma =>
            intro f w1 hb hd Q hK
            have e99 : f 99 = .bool true := hd.1 rfl
            have e100 : f 100 = .bool true := hd.2.1 rfl
            clear hd
            simp only [e99, e100] at hK
            have hK := Lib.hid hK
            go_wp2
            exact hK.out _ _ rfl (Below.refl _ _) (fun h => by cases h)
          refine steps2_cons ?_ ?_
          · as_aux_lemma =>
            intro f w1 hb hd Q hK
            have e101 : f 101 = .bool true := hd.1 rfl
            clear hd
            simp only [e101] at hK
            have hK := Lib.hid hK
            go_wp2
            exact hK.out _ _ rfl (Below.refl _ _) (fun h => by cases h)
          trivial
        · intro f4 y4 hb hf hne
          refine wpList_nil ?_
          have d4 : f4 4 = .bool true := hf 22 _ _ (by decide) rfl rfl
          clear hf hne
          replace hA := hA.below hb
          replace hB := hB.below hb
          replace hX := hX.below hb
          replace hY := hY.below hb
          replace hR := hR.below hb
          replace hS := hS.below hb
          replace hU := hU.below hb
          replace hb0 := hb0.trans (hb.mono hb0.size)
          clear hb
          simp only [d4]
          clear d4
          go_wp2
          go_returns
          exact ⟨rfl, hb0⟩
end Go.Proofs.YtjejibojcjfleaaGreat
