/- The walk of Root of the reference. -/
import Derived.Test.YtpaldgajkhmhbaaDoorN10
import Derived.Deep.Cut
namespace Go.Proofs.YtpaldgajkhmhbaaDoor
open Go.RowKit
/-- a number and a bool are answered -/
def PostR2 (f : Nat → Int) (b : Bool) (w : World) (e : Ending) (w' : World) : Prop := e = .returned (.tuple #[.agg (av f), .bool b]) ∧ Below w.heap.size w w'
theorem results_cell_tmp {fn : Func} {p q : Tmp} (h : fn.results = #[.cell p 33, .tmp q]) (tmps : Array Value) (w : World) (g : Nat) (f : Nat → Int) (hp : tmps.getD p undef = .pointer (some ⟨g, 0, none⟩)) (hg : Blk w g 33 (av f)) :
    (results fn tmps).run Tryd.prog w = .ok (.tuple #[.agg (av f), tmps.getD q undef]) w := by
  have hp' : tmps[p]?.getD undef = .pointer (some ⟨g, 0, none⟩) := by simpa using hp
  simp [results, h, hp', asAddr, run_loadVar_row w g 33 33 (av f) (0, 0) _ hg N_under rfl N_size]
theorem retN2 {fn : Func} {p q : Tmp} {f : Nat → Int} {b : Bool} {g : Nat} {tmps : Array Value} {D : List Deferred} {w : World} {R : Ending → World → Prop} (h : fn.results = #[.cell p 33, .tmp q]) (hp : tmps.getD p undef = .pointer (some ⟨g, 0, none⟩)) (hg : Blk w g 33 (av f)) (hq : tmps.getD q undef = .bool b) (hD : D = [])
    (hR : R (.returned (.tuple #[.agg (av f), .bool b])) w) : bodyPost Tryd.prog fn R .ret ⟨tmps, D⟩ w :=
  bodyPost_ret (by rw [results_cell_tmp h tmps w g f hp hg, hq]) hD hR
set_option maxRecDepth 20000 in
set_option maxHeartbeats 8000000 in
set_option maxRecDepth 100000 in
theorem rRoot_u (A B : Nat → Int) (ea : ∀ w, (binOp .eql 33 (.agg (av A)) (.agg (av fun _ => 0))).run Tryd.prog w = .ok (.bool true) w) (eb : True) (w : World) : Calls Tryd.prog 61 #[.agg (av A), .agg (av B)] w (PostR2 (fun _ => 0) true w) := by
  replace ea := Lib.hid ea
  replace eb := Lib.hid eb
  go_enter Tryd.func61, Tryd.ntmps61
  go_upto_region 2 with (fail)
  refine at_world (fun W0 hW => ?_)
  have hA : Blk W0 (w.heap.size) 33 (av A) := by rw [hW]; exact (((Blk.new _ _ _).alloc _).alloc _).alloc _
  have hB : Blk W0 (w.heap.size + 1) 33 (av B) := by rw [hW]; exact blk_at (by simp) (((Blk.new _ _ _).alloc _).alloc _)
  have hZ : Blk W0 (w.heap.size + 1 + 1) 33 (av fun _ => 0) := by rw [hW]; exact blk_at (by simp) ((Blk.new _ _ _).alloc _)
  have hC : Blk W0 (w.heap.size + 1 + 1 + 1) 33 (av fun _ => 0) := by rw [hW]; exact blk_at (by simp) (Blk.new _ _ _)
  have hb0 : Below w.heap.size w W0 := by rw [hW]; go_grown
  clear hW
  have qa := ea.out
  have qb := eb.out
  go_wp2_with (first | (refine ldN rfl rfl rfl hA ?_) | (refine ldN rfl rfl rfl hB ?_) | (refine ldN rfl rfl rfl hC ?_) | (refine stN rfl rfl rfl rfl hZ ?_; intro W9 hnew hgr9 hsz9))
  exact retN2 rfl rfl hnew rfl rfl ⟨rfl, hb0.grown hgr9 hb0.size (fun k h => by injection h; omega)⟩
set_option maxRecDepth 20000 in
set_option maxHeartbeats 8000000 in
set_option maxRecDepth 100000 in
theorem rRoot_v (A B : Nat → Int) (ea : ∀ w, (binOp .eql 33 (.agg (av A)) (.agg (av fun _ => 0))).run Tryd.prog w = .ok (.bool false) w) (eb : ∀ w, (binOp .eql 33 (.agg (av B)) (.agg (av fun _ => 0))).run Tryd.prog w = .ok (.bool true) w) (w : World) : Calls Tryd.prog 61 #[.agg (av A), .agg (av B)] w (PostR2 (fun _ => 0) false w) := by
  replace ea := Lib.hid ea
  replace eb := Lib.hid eb
  go_enter Tryd.func61, Tryd.ntmps61
  go_upto_region 2 with (fail)
  refine at_world (fun W0 hW => ?_)
  have hA : Blk W0 (w.heap.size) 33 (av A) := by rw [hW]; exact (((Blk.new _ _ _).alloc _).alloc _).alloc _
  have hB : Blk W0 (w.heap.size + 1) 33 (av B) := by rw [hW]; exact blk_at (by simp) (((Blk.new _ _ _).alloc _).alloc _)
  have hZ : Blk W0 (w.heap.size + 1 + 1) 33 (av fun _ => 0) := by rw [hW]; exact blk_at (by simp) ((Blk.new _ _ _).alloc _)
  have hC : Blk W0 (w.heap.size + 1 + 1 + 1) 33 (av fun _ => 0) := by rw [hW]; exact blk_at (by simp) (Blk.new _ _ _)
  have hb0 : Below w.heap.size w W0 := by rw [hW]; go_grown
  clear hW
  have qa := ea.out
  have qb := eb.out
  go_wp2_with (first | (refine ldN rfl rfl rfl hA ?_) | (refine ldN rfl rfl rfl hB ?_) | (refine ldN rfl rfl rfl hC ?_) | (refine stN rfl rfl rfl rfl hZ ?_; intro W9 hnew hgr9 hsz9))
  exact retN2 rfl rfl hnew rfl rfl ⟨rfl, hb0.grown hgr9 hb0.size (fun k h => by injection h; omega)⟩
def rRoot_a6L (A : Nat → Int) (B : Nat → Int) (I : Nat → Int) (Wn : Nat → Int) (B0 : Nat) : List (Value → World → Prop) := [
  Eq1 (.agg (av A)),
  Eq1 (.agg (av B)),
  Eq1 (.agg (av I)),
  Eq1 (.agg (av Wn)),
  NewB B0 33 #[.int .u64 0, .int .u64 0, .int .u64 0, .int .u64 0, .int .u64 0, .int .u64 0, .int .u64 0, .int .u64 0, .int .u64 0, .int .u64 0, .int .u64 0, .int .u64 0, .int .u64 0, .int .u64 0, .int .u64 0, .int .u64 0]]
theorem rRoot_a6S (A : Nat → Int) (B : Nat → Int) (I : Nat → Int) (Wn : Nat → Int) (B0 : Nat) : ∀ j x' q q', (rRoot_a6L A B I Wn B0).getD j (fun _ _ => True) x' q → Below q.heap.size q q' → (rRoot_a6L A B I Wn B0).getD j (fun _ _ => True) x' q' := by
  refine sta_all _ ?_
  simp only [rRoot_a6L, List.mem_cons, forall_eq_or_imp, List.not_mem_nil, false_implies, implies_true, and_true]
  exact ⟨sta_eq _, sta_eq _, sta_eq _, sta_eq _, sta_new _ _ _⟩
theorem rRoot_a6O (A : Nat → Int) (B : Nat → Int) (I : Nat → Int) (Wn : Nat → Int) (B0 : Nat) : ∀ j x' q, (fun j => j == 4) j = true → (rRoot_a6L A B I Wn B0).getD j (fun _ _ => True) x' q → ∀ g, x' = .pointer (some ⟨g, 0, none⟩) → g < q.heap.size := by
  intro j x' q hj hv g e
  have hj' : j = 4 := by simpa using hj
  subst hj'
  all_goals exact new_lt hv e
def rRoot_a9L (Wn : Nat → Int) (pq : Nat → Int) (E1 : Nat → Int) (E2 : Nat → Int) (E3 : Nat → Int) (r0 : Nat → Int) (B0 : Nat) : List (Value → World → Prop) := [
  Eq1 (.agg (av Wn)),
  Eq1 (.agg (av (Dg.up pq 0 65520))),
  Eq1 (.agg (av E1)),
  Eq1 (.agg (av E2)),
  Eq1 (.agg (av E3)),
  Eq1 (.agg (av r0)),
  NewB B0 33 #[.int .u64 0, .int .u64 0, .int .u64 0, .int .u64 0, .int .u64 0, .int .u64 0, .int .u64 0, .int .u64 0, .int .u64 0, .int .u64 0, .int .u64 0, .int .u64 0, .int .u64 0, .int .u64 0, .int .u64 0, .int .u64 0]]
theorem rRoot_a9S (Wn : Nat → Int) (pq : Nat → Int) (E1 : Nat → Int) (E2 : Nat → Int) (E3 : Nat → Int) (r0 : Nat → Int) (B0 : Nat) : ∀ j x' q q', (rRoot_a9L Wn pq E1 E2 E3 r0 B0).getD j (fun _ _ => True) x' q → Below q.heap.size q q' → (rRoot_a9L Wn pq E1 E2 E3 r0 B0).getD j (fun _ _ => True) x' q' := by
  refine sta_all _ ?_
  simp only [rRoot_a9L, List.mem_cons, forall_eq_or_imp, List.not_mem_nil, false_implies, implies_true, and_true]
  exact ⟨sta_eq _, sta_eq _, sta_eq _, sta_eq _, sta_eq _, sta_eq _, sta_new _ _ _⟩
theorem rRoot_a9O (Wn : Nat → Int) (pq : Nat → Int) (E1 : Nat → Int) (E2 : Nat → Int) (E3 : Nat → Int) (r0 : Nat → Int) (B0 : Nat) : ∀ j x' q, (fun j => j == 6) j = true → (rRoot_a9L Wn pq E1 E2 E3 r0 B0).getD j (fun _ _ => True) x' q → ∀ g, x' = .pointer (some ⟨g, 0, none⟩) → g < q.heap.size := by
  intro j x' q hj hv g e
  have hj' : j = 6 := by simpa using hj
  subst hj'
  all_goals exact new_lt hv e
def rRoot_a10L (Wn : Nat → Int) (r0 : Nat → Int) (q0 : Nat → Int) : List (Value → World → Prop) := [
  Eq1 (.agg (av r0)),
  Eq1 (.agg (av r0)),
  Eq1 (.agg (av q0)),
  Eq1 (.agg (av Wn)),
  Eq1 (.bool false)]
theorem rRoot_a10S (Wn : Nat → Int) (r0 : Nat → Int) (q0 : Nat → Int) : ∀ j x' q q', (rRoot_a10L Wn r0 q0).getD j (fun _ _ => True) x' q → Below q.heap.size q q' → (rRoot_a10L Wn r0 q0).getD j (fun _ _ => True) x' q' := by
  refine sta_all _ ?_
  simp only [rRoot_a10L, List.mem_cons, forall_eq_or_imp, List.not_mem_nil, false_implies, implies_true, and_true]
  exact ⟨sta_eq _, sta_eq _, sta_eq _, sta_eq _, sta_eq _⟩
def rRoot_a14L (Wn : Nat → Int) (r0 : Nat → Int) (q0 : Nat → Int) : List (Value → World → Prop) := [
  Eq1 (.agg (av r0)),
  Eq1 (.agg (av r0)),
  Eq1 (.agg (av q0)),
  Eq1 (.agg (av Wn)),
  Eq1 (.bool false)]
theorem rRoot_a14S (Wn : Nat → Int) (r0 : Nat → Int) (q0 : Nat → Int) : ∀ j x' q q', (rRoot_a14L Wn r0 q0).getD j (fun _ _ => True) x' q → Below q.heap.size q q' → (rRoot_a14L Wn r0 q0).getD j (fun _ _ => True) x' q' := by
  refine sta_all _ ?_
  simp only [rRoot_a14L, List.mem_cons, forall_eq_or_imp, List.not_mem_nil, false_implies, implies_true, and_true]
  exact ⟨sta_eq _, sta_eq _, sta_eq _, sta_eq _, sta_eq _⟩
set_option maxRecDepth 20000 in
set_option maxHeartbeats 8000000 in
set_option maxRecDepth 100000 in
theorem rRoot_a (A B I Wn pq E1 E2 E3 r0 q0 rn : Nat → Int) (od : Bool) (ea : ∀ w, (binOp .eql 33 (.agg (av A)) (.agg (av fun _ => 0))).run Tryd.prog w = .ok (.bool false) w) (eb : ∀ w, (binOp .eql 33 (.agg (av B)) (.agg (av fun _ => 0))).run Tryd.prog w = .ok (.bool false) w) (hp0 : pq 0 = 65517)
    (cinv : ∀ w, Calls Tryd.prog 66 #[.agg (av B)] w (PostN I w))
    (cw : ∀ w, Calls Tryd.prog 60 #[.agg (av A), .agg (av I)] w (PostN Wn w))
    (hPc : ∀ w, Calls Tryd.prog 85 #[] w (PostN pq w))
    (h1 : ∀ w, Calls Tryd.prog 88 #[.agg (av (Dg.up pq 0 65520))] w (PostN E1 w))
    (h2 : ∀ w, Calls Tryd.prog 88 #[.agg (av E1)] w (PostN E2 w))
    (h3 : ∀ w, Calls Tryd.prog 88 #[.agg (av E2)] w (PostN E3 w))
    (cr : ∀ w, Calls Tryd.prog 87 #[.agg (av Wn), .agg (av E3)] w (PostN r0 w))
    (cq : ∀ w, Calls Tryd.prog 60 #[.agg (av r0), .agg (av r0)] w (PostN q0 w))
    (e1 : ∀ w, (binOp .neq 33 (.agg (av q0)) (.agg (av Wn))).run Tryd.prog w = .ok (.bool false) w)
    (cod : ∀ w, Calls Tryd.prog 90 #[.agg (av r0)] w (PostV (.bool od) w))
    (csn : od = true → ∀ w, Calls Tryd.prog 62 #[.agg (av (fun _ => 0)), .agg (av r0)] w (PostN rn w))
    (w : World) : Calls Tryd.prog 61 #[.agg (av A), .agg (av B)] w (PostR2 (if od then rn else r0) true w) := by
  replace cinv := Lib.hid cinv
  replace cw := Lib.hid cw
  replace hPc := Lib.hid hPc
  replace h1 := Lib.hid h1
  replace h2 := Lib.hid h2
  replace h3 := Lib.hid h3
  replace cr := Lib.hid cr
  replace cq := Lib.hid cq
  replace e1 := Lib.hid e1
  replace cod := Lib.hid cod
  replace csn := Lib.hid csn
  replace hp0 := Lib.hid hp0
  replace ea := Lib.hid ea
  replace eb := Lib.hid eb
  go_enter Tryd.func61, Tryd.ntmps61
  go_upto_region 2 with (fail)
  refine at_world (fun W0 hW => ?_)
  have hA : Blk W0 (w.heap.size) 33 (av A) := by rw [hW]; exact (((Blk.new _ _ _).alloc _).alloc _).alloc _
  have hB : Blk W0 (w.heap.size + 1) 33 (av B) := by rw [hW]; exact blk_at (by simp) (((Blk.new _ _ _).alloc _).alloc _)
  have hZ : Blk W0 (w.heap.size + 1 + 1) 33 (av fun _ => 0) := by rw [hW]; exact blk_at (by simp) ((Blk.new _ _ _).alloc _)
  have hC : Blk W0 (w.heap.size + 1 + 1 + 1) 33 (av fun _ => 0) := by rw [hW]; exact blk_at (by simp) (Blk.new _ _ _)
  have hb0 : Below w.heap.size w W0 := by rw [hW]; go_grown
  clear hW
  have qa := ea.out
  have qb := eb.out
  go_wp2_with (first | (refine ldN rfl rfl rfl hA ?_) | (refine ldN rfl rfl rfl hB ?_) | (refine ldN rfl rfl rfl hC ?_))
  clear qa qb ea eb
  refine wp_region_grow2 5 (fun k => Nat.beq k 7 || (Nat.ble 20 k && Nat.ble k 23)) _ [] (fun j x' q => (rRoot_a6L A B I Wn W0.heap.size).getD j (fun _ _ => True) x' q) (fun j => j == 4) (fun f => #[.agg (av A), .agg (av B), .pointer (some ⟨w.heap.size, 0, none⟩), .pointer (some ⟨w.heap.size + 1, 0, none⟩), .pointer (some ⟨w.heap.size + 1 + 1, 0, none⟩), .bool false, .pointer (some ⟨w.heap.size + 1 + 1 + 1, 0, none⟩), f 7, undef, undef, undef, .agg (av (fun _ => 0)), .agg (av A), .agg (av (fun _ => 0)), .bool false, undef, .agg (av B), .agg (av (fun _ => 0)), .bool false, undef, f 20, f 21, f 22, f 23, undef, undef, undef, undef, undef, undef, undef, undef, undef, undef, undef, undef, undef, undef, undef, undef, undef, undef, undef, undef, undef, undef, undef, undef, undef, undef, undef, undef, undef, undef, undef, undef, undef, undef, undef, undef, undef, undef, undef, undef]) (fun f => rfl) (by kernel_rfl) (by kernel_rfl) (by kernel_rfl) (by kernel_rfl) (by kernel_rfl) (rRoot_a6S _ _ _ _ _) (rRoot_a6O _ _ _ _ _) ?_ ?_
  · refine steps2_cons ?_ ?_
    · as_aux_lemma =>
      intro f w1 hb hd Q hK
      clear hd
      have hK := Lib.hid hK
      refine ldN rfl rfl rfl (hA.below hb) ?_
      go_wp2
      exact hK.out _ _ rfl (.refl _ _) nof
    refine steps2_cons ?_ ?_
    · as_aux_lemma =>
      intro f w1 hb hd Q hK
      clear hd
      have hK := Lib.hid hK
      refine ldN rfl rfl rfl (hB.below hb) ?_
      go_wp2
      exact hK.out _ _ rfl (.refl _ _) nof
    refine steps2_cons ?_ ?_
    · as_aux_lemma =>
      intro f w1 hb hd Q hK
      have e21 : f 21 = .agg (av B) := hd.1 rfl
      clear hd
      simp only [e21] at hK
      have hK := Lib.hid hK
      go_wp2_with fail
      refine (cinv.out _).mono ?_
      rintro e w2 ⟨rfl, hb2⟩
      go_wp2
      exact hK.out _ _ rfl hb2 nof
    refine steps2_cons ?_ ?_
    · as_aux_lemma =>
      intro f w1 hb hd Q hK
      have e20 : f 20 = .agg (av A) := hd.1 rfl
      have e22 : f 22 = .agg (av I) := hd.2.1 rfl
      clear hd
      simp only [e20, e22] at hK
      have hK := Lib.hid hK
      go_wp2_with fail
      refine (cw.out _).mono ?_
      rintro e w2 ⟨rfl, hb2⟩
      go_wp2
      exact hK.out _ _ rfl hb2 nof
    refine steps2_cons ?_ ?_
    · as_aux_lemma =>
      intro f w1 hb hd Q hK
      clear hd
      have hK := Lib.hid hK
      have hsz := hb.size
      go_wp2
      exact hK.out _ _ ⟨_, rfl, hsz, Blk.new _ _ _⟩ ((Below.refl _ _).alloc (Nat.le_refl _) _) (fun _ => ⟨_, rfl, Nat.le_refl _⟩)
    trivial
  intro f1 y1 hb hf hne
  obtain ⟨g7, d7, lo7, bk7⟩ : NewB W0.heap.size 33 #[.int .u64 0, .int .u64 0, .int .u64 0, .int .u64 0, .int .u64 0, .int .u64 0, .int .u64 0, .int .u64 0, .int .u64 0, .int .u64 0, .int .u64 0, .int .u64 0, .int .u64 0, .int .u64 0, .int .u64 0, .int .u64 0] (f1 7) y1 := hf 4 _ _ (by decide) rfl rfl
  have d23 : f1 23 = .agg (av Wn) := hf 3 _ _ (by decide) rfl rfl
  clear hf hne
  simp only [d7, d23]
  refine stN (old := fun _ => 0) rfl rfl rfl rfl bk7 ?_
  intro v1 hW7 hgr hsz
  replace hA := (hA.below hb).grown hgr (fun hh => by injection hh with hh; have := hA.lt; omega)
  replace hB := (hB.below hb).grown hgr (fun hh => by injection hh with hh; have := hB.lt; omega)
  replace hZ := (hZ.below hb).grown hgr (fun hh => by injection hh with hh; have := hZ.lt; omega)
  replace hC := (hC.below hb).grown hgr (fun hh => by injection hh with hh; have := hC.lt; omega)
  replace hb0 := (hb0.trans (hb.mono hb0.size)).grown hgr (Nat.le_trans hb0.size hb.size) (fun k hk => by injection hk with hk; have := hb0.size; omega)
  clear hgr hsz hb bk7 d7 d23
  refine wpList_nil ?_
  go_wp2_with fail
  refine (hPc.out _).mono ?_
  rintro e1 wp ⟨rfl, hbx⟩
  replace hA := hA.below hbx
  replace hB := hB.below hbx
  replace hZ := hZ.below hbx
  replace hC := hC.below hbx
  replace hW7 := hW7.below hbx
  replace hb0 := hb0.trans (hbx.mono hb0.size)
  clear hbx
  have hAlt := hA.lt
  have hBlt := hB.lt
  have hZlt := hZ.lt
  have hClt := hC.lt
  have hW7lt := hW7.lt
  go_wp2_with (refine stN (old := fun _ => 0) rfl rfl rfl (f := pq) rfl (Blk.new _ _ _) ?_; intro wp1 hP8 hgr hsz; replace hA := (hA.alloc _).grown hgr (fun hh => by injection hh with hh; omega); replace hB := (hB.alloc _).grown hgr (fun hh => by injection hh with hh; omega); replace hZ := (hZ.alloc _).grown hgr (fun hh => by injection hh with hh; omega); replace hC := (hC.alloc _).grown hgr (fun hh => by injection hh with hh; omega); replace hW7 := (hW7.alloc _).grown hgr (fun hh => by injection hh with hh; omega); replace hb0 := (hb0.alloc hb0.size _).grown hgr (Nat.le_trans hb0.size (by simp)) (fun k hk => by injection hk with hk; have := hb0.size; omega); clear hgr hsz; have c0 := hP8.cell 0; rw [av_get _ _ (by decide), hp0.out] at c0; have hfr := fun j => hP8.frozen j)
  refine at_world (fun wp2 hW => ?_)
  replace hA := hA.far (p := ⟨wp.heap.size, 0, none⟩) (by show _ ≠ wp.heap.size; omega) (.int .u64 65520)
  rw [← hW] at hA
  replace hB := hB.far (p := ⟨wp.heap.size, 0, none⟩) (by show _ ≠ wp.heap.size; omega) (.int .u64 65520)
  rw [← hW] at hB
  replace hZ := hZ.far (p := ⟨wp.heap.size, 0, none⟩) (by show _ ≠ wp.heap.size; omega) (.int .u64 65520)
  rw [← hW] at hZ
  replace hC := hC.far (p := ⟨wp.heap.size, 0, none⟩) (by show _ ≠ wp.heap.size; omega) (.int .u64 65520)
  rw [← hW] at hC
  replace hW7 := hW7.far (p := ⟨wp.heap.size, 0, none⟩) (by show _ ≠ wp.heap.size; omega) (.int .u64 65520)
  rw [← hW] at hW7
  replace hP8 := hP8.set_ 0 (.int .u64 65520)
  rw [av_set _ _ _ (by decide), ← hW] at hP8
  replace hb0 := hb0.setCell (p := ⟨wp.heap.size, 0, none⟩) (by show w.heap.size ≤ wp.heap.size; omega) (.int .u64 65520)
  rw [← hW] at hb0
  clear hW c0 hfr hAlt hBlt hZlt hClt hW7lt
  generalize wp.heap.size = g8 at *
  refine wp_region_grow2 7 (fun k => Nat.beq k 9 || (Nat.ble 29 k && Nat.ble k 34)) _ [] (fun j x' q => (rRoot_a9L Wn pq E1 E2 E3 r0 wp2.heap.size).getD j (fun _ _ => True) x' q) (fun j => j == 6) (fun f => #[.agg (av A), .agg (av B), .pointer (some ⟨w.heap.size, 0, none⟩), .pointer (some ⟨w.heap.size + 1, 0, none⟩), .pointer (some ⟨w.heap.size + 1 + 1, 0, none⟩), .bool false, .pointer (some ⟨w.heap.size + 1 + 1 + 1, 0, none⟩), .pointer (some ⟨g7, 0, none⟩), .pointer (some ⟨g8, 0, none⟩), f 9, undef, .agg (av (fun _ => 0)), .agg (av A), .agg (av (fun _ => 0)), .bool false, undef, .agg (av B), .agg (av (fun _ => 0)), .bool false, undef, f1 20, f1 21, f1 22, .agg (av Wn), .agg (av pq), .pointer (some ⟨g8, 0, none⟩), .int .u64 65517, .int .u64 65520, .pointer (some ⟨g8, 0, none⟩), f 29, f 30, f 31, f 32, f 33, f 34, undef, undef, undef, undef, undef, undef, undef, undef, undef, undef, undef, undef, undef, undef, undef, undef, undef, undef, undef, undef, undef, undef, undef, undef, undef, undef, undef, undef, undef]) (fun f => rfl) (by kernel_rfl) (by kernel_rfl) (by kernel_rfl) (by kernel_rfl) (by kernel_rfl) (rRoot_a9S _ _ _ _ _ _ _) (rRoot_a9O _ _ _ _ _ _ _) ?_ ?_
  · refine steps2_cons ?_ ?_
    · as_aux_lemma =>
      intro f w1 hb hd Q hK
      clear hd
      have hK := Lib.hid hK
      refine ldN rfl rfl rfl (hW7.below hb) ?_
      go_wp2
      exact hK.out _ _ rfl (.refl _ _) nof
    refine steps2_cons ?_ ?_
    · as_aux_lemma =>
      intro f w1 hb hd Q hK
      clear hd
      have hK := Lib.hid hK
      refine ldN rfl rfl rfl (hP8.below hb) ?_
      go_wp2
      exact hK.out _ _ rfl (.refl _ _) nof
    refine steps2_cons ?_ ?_
    · as_aux_lemma =>
      intro f w1 hb hd Q hK
      have e30 : f 30 = .agg (av (Dg.up pq 0 65520)) := hd.1 rfl
      clear hd
      simp only [e30] at hK
      have hK := Lib.hid hK
      go_wp2_with fail
      refine (h1.out _).mono ?_
      rintro e w2 ⟨rfl, hb2⟩
      go_wp2
      exact hK.out _ _ rfl hb2 nof
    refine steps2_cons ?_ ?_
    · as_aux_lemma =>
      intro f w1 hb hd Q hK
      have e31 : f 31 = .agg (av E1) := hd.1 rfl
      clear hd
      simp only [e31] at hK
      have hK := Lib.hid hK
      go_wp2_with fail
      refine (h2.out _).mono ?_
      rintro e w2 ⟨rfl, hb2⟩
      go_wp2
      exact hK.out _ _ rfl hb2 nof
    refine steps2_cons ?_ ?_
    · as_aux_lemma =>
      intro f w1 hb hd Q hK
      have e32 : f 32 = .agg (av E2) := hd.1 rfl
      clear hd
      simp only [e32] at hK
      have hK := Lib.hid hK
      go_wp2_with fail
      refine (h3.out _).mono ?_
      rintro e w2 ⟨rfl, hb2⟩
      go_wp2
      exact hK.out _ _ rfl hb2 nof
    refine steps2_cons ?_ ?_
    · as_aux_lemma =>
      intro f w1 hb hd Q hK
      have e29 : f 29 = .agg (av Wn) := hd.1 rfl
      have e33 : f 33 = .agg (av E3) := hd.2.1 rfl
      clear hd
      simp only [e29, e33] at hK
      have hK := Lib.hid hK
      go_wp2_with fail
      refine (cr.out _).mono ?_
      rintro e w2 ⟨rfl, hb2⟩
      go_wp2
      exact hK.out _ _ rfl hb2 nof
    refine steps2_cons ?_ ?_
    · as_aux_lemma =>
      intro f w1 hb hd Q hK
      clear hd
      have hK := Lib.hid hK
      have hsz := hb.size
      go_wp2
      exact hK.out _ _ ⟨_, rfl, hsz, Blk.new _ _ _⟩ ((Below.refl _ _).alloc (Nat.le_refl _) _) (fun _ => ⟨_, rfl, Nat.le_refl _⟩)
    trivial
  intro f2 y2 hb hf hne
  obtain ⟨g9, d9, lo9, bk9⟩ : NewB wp2.heap.size 33 #[.int .u64 0, .int .u64 0, .int .u64 0, .int .u64 0, .int .u64 0, .int .u64 0, .int .u64 0, .int .u64 0, .int .u64 0, .int .u64 0, .int .u64 0, .int .u64 0, .int .u64 0, .int .u64 0, .int .u64 0, .int .u64 0] (f2 9) y2 := hf 6 _ _ (by decide) rfl rfl
  have d34 : f2 34 = .agg (av r0) := hf 5 _ _ (by decide) rfl rfl
  clear hf hne
  simp only [d9, d34]
  refine stN (old := fun _ => 0) rfl rfl rfl rfl bk9 ?_
  intro v2 hR hgr hsz
  have HNhA := Lib.hid (show w.heap.size ≠ g9 from by have := hA.lt; omega)
  have HNhB := Lib.hid (show w.heap.size + 1 ≠ g9 from by have := hB.lt; omega)
  have HNhZ := Lib.hid (show w.heap.size + 1 + 1 ≠ g9 from by have := hZ.lt; omega)
  have HNhC := Lib.hid (show w.heap.size + 1 + 1 + 1 ≠ g9 from by have := hC.lt; omega)
  have HNhW7 := Lib.hid (show g7 ≠ g9 from by have := hW7.lt; omega)
  have HNhP8 := Lib.hid (show g8 ≠ g9 from by have := hP8.lt; omega)
  have HNb := Lib.hid (show w.heap.size ≤ g9 from by have := hb0.size; omega)
  replace hA := (hA.below hb).grown hgr (fun hh => by injection hh with hh; have := hA.lt; omega)
  replace hB := (hB.below hb).grown hgr (fun hh => by injection hh with hh; have := hB.lt; omega)
  replace hZ := (hZ.below hb).grown hgr (fun hh => by injection hh with hh; have := hZ.lt; omega)
  replace hC := (hC.below hb).grown hgr (fun hh => by injection hh with hh; have := hC.lt; omega)
  replace hW7 := (hW7.below hb).grown hgr (fun hh => by injection hh with hh; have := hW7.lt; omega)
  replace hP8 := (hP8.below hb).grown hgr (fun hh => by injection hh with hh; have := hP8.lt; omega)
  replace hb0 := (hb0.trans (hb.mono hb0.size)).grown hgr (Nat.le_trans hb0.size hb.size) (fun k hk => by injection hk with hk; have := hb0.size; omega)
  clear hgr hsz hb bk9 d9 d34
  refine wpList_nil ?_
  go_wp2
  refine wp_region_grow2 5 (fun k => (Nat.ble 35 k && Nat.ble k 39)) _ [] (fun j x' q => (rRoot_a10L Wn r0 q0).getD j (fun _ _ => True) x' q) (fun _ => false) (fun f => #[.agg (av A), .agg (av B), .pointer (some ⟨w.heap.size, 0, none⟩), .pointer (some ⟨w.heap.size + 1, 0, none⟩), .pointer (some ⟨w.heap.size + 1 + 1, 0, none⟩), .bool false, .pointer (some ⟨w.heap.size + 1 + 1 + 1, 0, none⟩), .pointer (some ⟨g7, 0, none⟩), .pointer (some ⟨g8, 0, none⟩), .pointer (some ⟨g9, 0, none⟩), undef, .agg (av (fun _ => 0)), .agg (av A), .agg (av (fun _ => 0)), .bool false, undef, .agg (av B), .agg (av (fun _ => 0)), .bool false, undef, f1 20, f1 21, f1 22, .agg (av Wn), .agg (av pq), .pointer (some ⟨g8, 0, none⟩), .int .u64 65517, .int .u64 65520, .pointer (some ⟨g8, 0, none⟩), f2 29, f2 30, f2 31, f2 32, f2 33, .agg (av r0), f 35, f 36, f 37, f 38, f 39, undef, undef, undef, undef, undef, undef, undef, undef, undef, undef, undef, undef, undef, undef, undef, undef, undef, undef, undef, undef, undef, undef, undef, undef]) (fun f => rfl) (by kernel_rfl) (by kernel_rfl) (by kernel_rfl) (by kernel_rfl) (by kernel_rfl) (rRoot_a10S _ _ _) (fun _ _ _ h => by cases h) ?_ ?_
  · refine steps2_cons ?_ ?_
    · as_aux_lemma =>
      intro f w1 hb hd Q hK
      clear hd
      have hK := Lib.hid hK
      refine ldN rfl rfl rfl (hR.below hb) ?_
      go_wp2
      exact hK.out _ _ rfl (.refl _ _) nof
    refine steps2_cons ?_ ?_
    · as_aux_lemma =>
      intro f w1 hb hd Q hK
      clear hd
      have hK := Lib.hid hK
      refine ldN rfl rfl rfl (hR.below hb) ?_
      go_wp2
      exact hK.out _ _ rfl (.refl _ _) nof
    refine steps2_cons ?_ ?_
    · as_aux_lemma =>
      intro f w1 hb hd Q hK
      have e35 : f 35 = .agg (av r0) := hd.1 rfl
      have e36 : f 36 = .agg (av r0) := hd.2.1 rfl
      clear hd
      simp only [e35, e36] at hK
      have hK := Lib.hid hK
      go_wp2_with fail
      refine (cq.out _).mono ?_
      rintro e w2 ⟨rfl, hb2⟩
      go_wp2
      exact hK.out _ _ rfl hb2 nof
    refine steps2_cons ?_ ?_
    · as_aux_lemma =>
      intro f w1 hb hd Q hK
      clear hd
      have hK := Lib.hid hK
      refine ldN rfl rfl rfl (hW7.below hb) ?_
      go_wp2
      exact hK.out _ _ rfl (.refl _ _) nof
    refine steps2_cons ?_ ?_
    · as_aux_lemma =>
      intro f w1 hb hd Q hK
      have e37 : f 37 = .agg (av q0) := hd.1 rfl
      have e38 : f 38 = .agg (av Wn) := hd.2.1 rfl
      clear hd
      simp only [e37, e38] at hK
      have hK := Lib.hid hK
      have hq := e1.out
      go_wp2
      exact hK.out _ _ rfl (.refl _ _) nof
    trivial
  intro f3 y3 hb hf hne
  refine wpList_nil ?_
  have d39 : f3 39 = .bool false := hf 4 _ _ (by decide) rfl rfl
  clear hf hne
  replace hA := hA.below hb
  replace hB := hB.below hb
  replace hZ := hZ.below hb
  replace hC := hC.below hb
  replace hW7 := hW7.below hb
  replace hP8 := hP8.below hb
  replace hR := hR.below hb
  replace hb0 := hb0.trans (hb.mono hb0.size)
  clear hb
  simp only [d39]
  clear d39
  go_wp2
  refine wp_region_grow2 5 (fun k => (Nat.ble 52 k && Nat.ble k 56)) _ [] (fun j x' q => (rRoot_a14L Wn r0 q0).getD j (fun _ _ => True) x' q) (fun _ => false) (fun f => #[.agg (av A), .agg (av B), .pointer (some ⟨w.heap.size, 0, none⟩), .pointer (some ⟨w.heap.size + 1, 0, none⟩), .pointer (some ⟨w.heap.size + 1 + 1, 0, none⟩), .bool false, .pointer (some ⟨w.heap.size + 1 + 1 + 1, 0, none⟩), .pointer (some ⟨g7, 0, none⟩), .pointer (some ⟨g8, 0, none⟩), .pointer (some ⟨g9, 0, none⟩), undef, .agg (av (fun _ => 0)), .agg (av A), .agg (av (fun _ => 0)), .bool false, undef, .agg (av B), .agg (av (fun _ => 0)), .bool false, undef, f1 20, f1 21, f1 22, .agg (av Wn), .agg (av pq), .pointer (some ⟨g8, 0, none⟩), .int .u64 65517, .int .u64 65520, .pointer (some ⟨g8, 0, none⟩), f2 29, f2 30, f2 31, f2 32, f2 33, .agg (av r0), f3 35, f3 36, f3 37, f3 38, .bool false, undef, undef, undef, undef, undef, undef, undef, undef, undef, undef, undef, undef, f 52, f 53, f 54, f 55, f 56, undef, undef, undef, undef, undef, undef, undef]) (fun f => rfl) (by kernel_rfl) (by kernel_rfl) (by kernel_rfl) (by kernel_rfl) (by kernel_rfl) (rRoot_a14S _ _ _) (fun _ _ _ h => by cases h) ?_ ?_
  · refine steps2_cons ?_ ?_
    · as_aux_lemma =>
      intro f w1 hb hd Q hK
      clear hd
      have hK := Lib.hid hK
      refine ldN rfl rfl rfl (hR.below hb) ?_
      go_wp2
      exact hK.out _ _ rfl (.refl _ _) nof
    refine steps2_cons ?_ ?_
    · as_aux_lemma =>
      intro f w1 hb hd Q hK
      clear hd
      have hK := Lib.hid hK
      refine ldN rfl rfl rfl (hR.below hb) ?_
      go_wp2
      exact hK.out _ _ rfl (.refl _ _) nof
    refine steps2_cons ?_ ?_
    · as_aux_lemma =>
      intro f w1 hb hd Q hK
      have e52 : f 52 = .agg (av r0) := hd.1 rfl
      have e53 : f 53 = .agg (av r0) := hd.2.1 rfl
      clear hd
      simp only [e52, e53] at hK
      have hK := Lib.hid hK
      go_wp2_with fail
      refine (cq.out _).mono ?_
      rintro e w2 ⟨rfl, hb2⟩
      go_wp2
      exact hK.out _ _ rfl hb2 nof
    refine steps2_cons ?_ ?_
    · as_aux_lemma =>
      intro f w1 hb hd Q hK
      clear hd
      have hK := Lib.hid hK
      refine ldN rfl rfl rfl (hW7.below hb) ?_
      go_wp2
      exact hK.out _ _ rfl (.refl _ _) nof
    refine steps2_cons ?_ ?_
    · as_aux_lemma =>
      intro f w1 hb hd Q hK
      have e54 : f 54 = .agg (av q0) := hd.1 rfl
      have e55 : f 55 = .agg (av Wn) := hd.2.1 rfl
      clear hd
      simp only [e54, e55] at hK
      have hK := Lib.hid hK
      have hq := e1.out
      go_wp2
      exact hK.out _ _ rfl (.refl _ _) nof
    trivial
  intro f4 y4 hb hf hne
  refine wpList_nil ?_
  have d56 : f4 56 = .bool false := hf 4 _ _ (by decide) rfl rfl
  clear hf hne
  replace hA := hA.below hb
  replace hB := hB.below hb
  replace hZ := hZ.below hb
  replace hC := hC.below hb
  replace hW7 := hW7.below hb
  replace hP8 := hP8.below hb
  replace hR := hR.below hb
  replace hb0 := hb0.trans (hb.mono hb0.size)
  clear hb
  simp only [d56]
  clear d56
  go_wp2_with (refine ldN rfl rfl rfl hR ?_)
  refine (cod.out _).mono ?_
  rintro e1 wo ⟨rfl, hbx⟩
  replace hA := hA.below hbx
  replace hB := hB.below hbx
  replace hZ := hZ.below hbx
  replace hC := hC.below hbx
  replace hW7 := hW7.below hbx
  replace hP8 := hP8.below hbx
  replace hR := hR.below hbx
  replace hb0 := hb0.trans (hbx.mono hb0.size)
  clear hbx
  cases od
  · go_wp2_with (first | (refine ldN rfl rfl rfl hR ?_) | (refine ldN rfl rfl rfl hC ?_) | (refine stN rfl rfl rfl rfl hZ ?_; intro W9 hnew hgr9 hsz9))
    exact retN2 rfl rfl hnew rfl rfl ⟨rfl, hb0.grown hgr9 hb0.size (fun k h => by injection h; omega)⟩
  have csm := Lib.hid (csn.out rfl)
  clear csn
  go_wp2_with (first | (refine ldN rfl rfl rfl hR ?_) | (refine ldN rfl rfl rfl hC ?_))
  refine (csm.out _).mono ?_
  rintro e1 wn ⟨rfl, hbx⟩
  replace hA := hA.below hbx
  replace hB := hB.below hbx
  replace hZ := hZ.below hbx
  replace hC := hC.below hbx
  replace hW7 := hW7.below hbx
  replace hP8 := hP8.below hbx
  replace hR := hR.below hbx
  replace hb0 := hb0.trans (hbx.mono hb0.size)
  clear hbx
  go_wp2_with (first | (refine stN rfl rfl rfl (f := rn) rfl hR ?_; intro W8 hR8 hgr hsz; replace hZ := hZ.grown hgr (fun hh => HNhZ.out (by injection hh)); replace hb0 := hb0.grown hgr hb0.size (fun k hk => by injection hk with hk; have := HNb.out; omega); clear hgr hsz) | (refine ldN rfl rfl rfl hR8 ?_) | (refine stN rfl rfl rfl rfl hZ ?_; intro W9 hnew hgr9 hsz9))
  exact retN2 rfl rfl hnew rfl rfl ⟨rfl, hb0.grown hgr9 hb0.size (fun k h => by injection h; omega)⟩
def rRoot_b6L (A : Nat → Int) (B : Nat → Int) (I : Nat → Int) (Wn : Nat → Int) (B0 : Nat) : List (Value → World → Prop) := [
  Eq1 (.agg (av A)),
  Eq1 (.agg (av B)),
  Eq1 (.agg (av I)),
  Eq1 (.agg (av Wn)),
  NewB B0 33 #[.int .u64 0, .int .u64 0, .int .u64 0, .int .u64 0, .int .u64 0, .int .u64 0, .int .u64 0, .int .u64 0, .int .u64 0, .int .u64 0, .int .u64 0, .int .u64 0, .int .u64 0, .int .u64 0, .int .u64 0, .int .u64 0]]
theorem rRoot_b6S (A : Nat → Int) (B : Nat → Int) (I : Nat → Int) (Wn : Nat → Int) (B0 : Nat) : ∀ j x' q q', (rRoot_b6L A B I Wn B0).getD j (fun _ _ => True) x' q → Below q.heap.size q q' → (rRoot_b6L A B I Wn B0).getD j (fun _ _ => True) x' q' := by
  refine sta_all _ ?_
  simp only [rRoot_b6L, List.mem_cons, forall_eq_or_imp, List.not_mem_nil, false_implies, implies_true, and_true]
  exact ⟨sta_eq _, sta_eq _, sta_eq _, sta_eq _, sta_new _ _ _⟩
theorem rRoot_b6O (A : Nat → Int) (B : Nat → Int) (I : Nat → Int) (Wn : Nat → Int) (B0 : Nat) : ∀ j x' q, (fun j => j == 4) j = true → (rRoot_b6L A B I Wn B0).getD j (fun _ _ => True) x' q → ∀ g, x' = .pointer (some ⟨g, 0, none⟩) → g < q.heap.size := by
  intro j x' q hj hv g e
  have hj' : j = 4 := by simpa using hj
  subst hj'
  all_goals exact new_lt hv e
def rRoot_b9L (Wn : Nat → Int) (pq : Nat → Int) (E1 : Nat → Int) (E2 : Nat → Int) (E3 : Nat → Int) (r0 : Nat → Int) (B0 : Nat) : List (Value → World → Prop) := [
  Eq1 (.agg (av Wn)),
  Eq1 (.agg (av (Dg.up pq 0 65520))),
  Eq1 (.agg (av E1)),
  Eq1 (.agg (av E2)),
  Eq1 (.agg (av E3)),
  Eq1 (.agg (av r0)),
  NewB B0 33 #[.int .u64 0, .int .u64 0, .int .u64 0, .int .u64 0, .int .u64 0, .int .u64 0, .int .u64 0, .int .u64 0, .int .u64 0, .int .u64 0, .int .u64 0, .int .u64 0, .int .u64 0, .int .u64 0, .int .u64 0, .int .u64 0]]
theorem rRoot_b9S (Wn : Nat → Int) (pq : Nat → Int) (E1 : Nat → Int) (E2 : Nat → Int) (E3 : Nat → Int) (r0 : Nat → Int) (B0 : Nat) : ∀ j x' q q', (rRoot_b9L Wn pq E1 E2 E3 r0 B0).getD j (fun _ _ => True) x' q → Below q.heap.size q q' → (rRoot_b9L Wn pq E1 E2 E3 r0 B0).getD j (fun _ _ => True) x' q' := by
  refine sta_all _ ?_
  simp only [rRoot_b9L, List.mem_cons, forall_eq_or_imp, List.not_mem_nil, false_implies, implies_true, and_true]
  exact ⟨sta_eq _, sta_eq _, sta_eq _, sta_eq _, sta_eq _, sta_eq _, sta_new _ _ _⟩
theorem rRoot_b9O (Wn : Nat → Int) (pq : Nat → Int) (E1 : Nat → Int) (E2 : Nat → Int) (E3 : Nat → Int) (r0 : Nat → Int) (B0 : Nat) : ∀ j x' q, (fun j => j == 6) j = true → (rRoot_b9L Wn pq E1 E2 E3 r0 B0).getD j (fun _ _ => True) x' q → ∀ g, x' = .pointer (some ⟨g, 0, none⟩) → g < q.heap.size := by
  intro j x' q hj hv g e
  have hj' : j = 6 := by simpa using hj
  subst hj'
  all_goals exact new_lt hv e
def rRoot_b10L (Wn : Nat → Int) (r0 : Nat → Int) (q0 : Nat → Int) : List (Value → World → Prop) := [
  Eq1 (.agg (av r0)),
  Eq1 (.agg (av r0)),
  Eq1 (.agg (av q0)),
  Eq1 (.agg (av Wn)),
  Eq1 (.bool true)]
theorem rRoot_b10S (Wn : Nat → Int) (r0 : Nat → Int) (q0 : Nat → Int) : ∀ j x' q q', (rRoot_b10L Wn r0 q0).getD j (fun _ _ => True) x' q → Below q.heap.size q q' → (rRoot_b10L Wn r0 q0).getD j (fun _ _ => True) x' q' := by
  refine sta_all _ ?_
  simp only [rRoot_b10L, List.mem_cons, forall_eq_or_imp, List.not_mem_nil, false_implies, implies_true, and_true]
  exact ⟨sta_eq _, sta_eq _, sta_eq _, sta_eq _, sta_eq _⟩
def rRoot_b13L (pq : Nat → Int) (r0 : Nat → Int) (K2 : Nat → Int) (F1 : Nat → Int) (F2 : Nat → Int) (kk : Nat → Int) (r1 : Nat → Int) : List (Value → World → Prop) := [
  Eq1 (.agg (av r0)),
  Eq1 (.agg (av K2)),
  Eq1 (.agg (av (Dg.up pq 0 65516))),
  Eq1 (.agg (av F1)),
  Eq1 (.agg (av F2)),
  Eq1 (.agg (av kk)),
  Eq1 (.agg (av r1))]
theorem rRoot_b13S (pq : Nat → Int) (r0 : Nat → Int) (K2 : Nat → Int) (F1 : Nat → Int) (F2 : Nat → Int) (kk : Nat → Int) (r1 : Nat → Int) : ∀ j x' q q', (rRoot_b13L pq r0 K2 F1 F2 kk r1).getD j (fun _ _ => True) x' q → Below q.heap.size q q' → (rRoot_b13L pq r0 K2 F1 F2 kk r1).getD j (fun _ _ => True) x' q' := by
  refine sta_all _ ?_
  simp only [rRoot_b13L, List.mem_cons, forall_eq_or_imp, List.not_mem_nil, false_implies, implies_true, and_true]
  exact ⟨sta_eq _, sta_eq _, sta_eq _, sta_eq _, sta_eq _, sta_eq _, sta_eq _⟩
def rRoot_b14L (Wn : Nat → Int) (r1 : Nat → Int) (q1 : Nat → Int) : List (Value → World → Prop) := [
  Eq1 (.agg (av r1)),
  Eq1 (.agg (av r1)),
  Eq1 (.agg (av q1)),
  Eq1 (.agg (av Wn)),
  Eq1 (.bool true)]
theorem rRoot_b14S (Wn : Nat → Int) (r1 : Nat → Int) (q1 : Nat → Int) : ∀ j x' q q', (rRoot_b14L Wn r1 q1).getD j (fun _ _ => True) x' q → Below q.heap.size q q' → (rRoot_b14L Wn r1 q1).getD j (fun _ _ => True) x' q' := by
  refine sta_all _ ?_
  simp only [rRoot_b14L, List.mem_cons, forall_eq_or_imp, List.not_mem_nil, false_implies, implies_true, and_true]
  exact ⟨sta_eq _, sta_eq _, sta_eq _, sta_eq _, sta_eq _⟩
set_option maxRecDepth 20000 in
set_option maxHeartbeats 8000000 in
set_option maxRecDepth 100000 in
theorem rRoot_b (A B I Wn pq E1 E2 E3 r0 q0 K2 F1 F2 kk r1 q1 : Nat → Int) (ea : ∀ w, (binOp .eql 33 (.agg (av A)) (.agg (av fun _ => 0))).run Tryd.prog w = .ok (.bool false) w) (eb : ∀ w, (binOp .eql 33 (.agg (av B)) (.agg (av fun _ => 0))).run Tryd.prog w = .ok (.bool false) w) (hp0 : pq 0 = 65517)
    (cinv : ∀ w, Calls Tryd.prog 66 #[.agg (av B)] w (PostN I w))
    (cw : ∀ w, Calls Tryd.prog 60 #[.agg (av A), .agg (av I)] w (PostN Wn w))
    (hPc : ∀ w, Calls Tryd.prog 85 #[] w (PostN pq w))
    (h1 : ∀ w, Calls Tryd.prog 88 #[.agg (av (Dg.up pq 0 65520))] w (PostN E1 w))
    (h2 : ∀ w, Calls Tryd.prog 88 #[.agg (av E1)] w (PostN E2 w))
    (h3 : ∀ w, Calls Tryd.prog 88 #[.agg (av E2)] w (PostN E3 w))
    (cr : ∀ w, Calls Tryd.prog 87 #[.agg (av Wn), .agg (av E3)] w (PostN r0 w))
    (cq : ∀ w, Calls Tryd.prog 60 #[.agg (av r0), .agg (av r0)] w (PostN q0 w))
    (e1 : ∀ w, (binOp .neq 33 (.agg (av q0)) (.agg (av Wn))).run Tryd.prog w = .ok (.bool true) w)
    (cs2 : ∀ w, Calls Tryd.prog 89 #[.int .u64 2] w (PostN K2 w))
    (g1 : ∀ w, Calls Tryd.prog 88 #[.agg (av (Dg.up pq 0 65516))] w (PostN F1 w))
    (g2 : ∀ w, Calls Tryd.prog 88 #[.agg (av F1)] w (PostN F2 w))
    (ck : ∀ w, Calls Tryd.prog 87 #[.agg (av K2), .agg (av F2)] w (PostN kk w))
    (ct : ∀ w, Calls Tryd.prog 60 #[.agg (av r0), .agg (av kk)] w (PostN r1 w))
    (cq1 : ∀ w, Calls Tryd.prog 60 #[.agg (av r1), .agg (av r1)] w (PostN q1 w))
    (e2 : ∀ w, (binOp .neq 33 (.agg (av q1)) (.agg (av Wn))).run Tryd.prog w = .ok (.bool true) w)
    (w : World) : Calls Tryd.prog 61 #[.agg (av A), .agg (av B)] w (PostR2 (fun _ => 0) false w) := by
  replace cinv := Lib.hid cinv
  replace cw := Lib.hid cw
  replace hPc := Lib.hid hPc
  replace h1 := Lib.hid h1
  replace h2 := Lib.hid h2
  replace h3 := Lib.hid h3
  replace cr := Lib.hid cr
  replace cq := Lib.hid cq
  replace e1 := Lib.hid e1
  replace cs2 := Lib.hid cs2
  replace g1 := Lib.hid g1
  replace g2 := Lib.hid g2
  replace ck := Lib.hid ck
  replace ct := Lib.hid ct
  replace cq1 := Lib.hid cq1
  replace e2 := Lib.hid e2
  replace hp0 := Lib.hid hp0
  replace ea := Lib.hid ea
  replace eb := Lib.hid eb
  go_enter Tryd.func61, Tryd.ntmps61
  go_upto_region 2 with (fail)
  refine at_world (fun W0 hW => ?_)
  have hA : Blk W0 (w.heap.size) 33 (av A) := by rw [hW]; exact (((Blk.new _ _ _).alloc _).alloc _).alloc _
  have hB : Blk W0 (w.heap.size + 1) 33 (av B) := by rw [hW]; exact blk_at (by simp) (((Blk.new _ _ _).alloc _).alloc _)
  have hZ : Blk W0 (w.heap.size + 1 + 1) 33 (av fun _ => 0) := by rw [hW]; exact blk_at (by simp) ((Blk.new _ _ _).alloc _)
  have hC : Blk W0 (w.heap.size + 1 + 1 + 1) 33 (av fun _ => 0) := by rw [hW]; exact blk_at (by simp) (Blk.new _ _ _)
  have hb0 : Below w.heap.size w W0 := by rw [hW]; go_grown
  clear hW
  have qa := ea.out
  have qb := eb.out
  go_wp2_with (first | (refine ldN rfl rfl rfl hA ?_) | (refine ldN rfl rfl rfl hB ?_) | (refine ldN rfl rfl rfl hC ?_))
  clear qa qb ea eb
  refine wp_region_grow2 5 (fun k => Nat.beq k 7 || (Nat.ble 20 k && Nat.ble k 23)) _ [] (fun j x' q => (rRoot_b6L A B I Wn W0.heap.size).getD j (fun _ _ => True) x' q) (fun j => j == 4) (fun f => #[.agg (av A), .agg (av B), .pointer (some ⟨w.heap.size, 0, none⟩), .pointer (some ⟨w.heap.size + 1, 0, none⟩), .pointer (some ⟨w.heap.size + 1 + 1, 0, none⟩), .bool false, .pointer (some ⟨w.heap.size + 1 + 1 + 1, 0, none⟩), f 7, undef, undef, undef, .agg (av (fun _ => 0)), .agg (av A), .agg (av (fun _ => 0)), .bool false, undef, .agg (av B), .agg (av (fun _ => 0)), .bool false, undef, f 20, f 21, f 22, f 23, undef, undef, undef, undef, undef, undef, undef, undef, undef, undef, undef, undef, undef, undef, undef, undef, undef, undef, undef, undef, undef, undef, undef, undef, undef, undef, undef, undef, undef, undef, undef, undef, undef, undef, undef, undef, undef, undef, undef, undef]) (fun f => rfl) (by kernel_rfl) (by kernel_rfl) (by kernel_rfl) (by kernel_rfl) (by kernel_rfl) (rRoot_b6S _ _ _ _ _) (rRoot_b6O _ _ _ _ _) ?_ ?_
  · refine steps2_cons ?_ ?_
    · as_aux_lemma =>
      intro f w1 hb hd Q hK
      clear hd
      have hK := Lib.hid hK
      refine ldN rfl rfl rfl (hA.below hb) ?_
      go_wp2
      exact hK.out _ _ rfl (.refl _ _) nof
    refine steps2_cons ?_ ?_
    · as_aux_lemma =>
      intro f w1 hb hd Q hK
      clear hd
      have hK := Lib.hid hK
      refine ldN rfl rfl rfl (hB.below hb) ?_
      go_wp2
      exact hK.out _ _ rfl (.refl _ _) nof
    refine steps2_cons ?_ ?_
    · as_aux_lemma =>
      intro f w1 hb hd Q hK
      have e21 : f 21 = .agg (av B) := hd.1 rfl
      clear hd
      simp only [e21] at hK
      have hK := Lib.hid hK
      go_wp2_with fail
      refine (cinv.out _).mono ?_
      rintro e w2 ⟨rfl, hb2⟩
      go_wp2
      exact hK.out _ _ rfl hb2 nof
    refine steps2_cons ?_ ?_
    · as_aux_lemma =>
      intro f w1 hb hd Q hK
      have e20 : f 20 = .agg (av A) := hd.1 rfl
      have e22 : f 22 = .agg (av I) := hd.2.1 rfl
      clear hd
      simp only [e20, e22] at hK
      have hK := Lib.hid hK
      go_wp2_with fail
      refine (cw.out _).mono ?_
      rintro e w2 ⟨rfl, hb2⟩
      go_wp2
      exact hK.out _ _ rfl hb2 nof
    refine steps2_cons ?_ ?_
    · as_aux_lemma =>
      intro f w1 hb hd Q hK
      clear hd
      have hK := Lib.hid hK
      have hsz := hb.size
      go_wp2
      exact hK.out _ _ ⟨_, rfl, hsz, Blk.new _ _ _⟩ ((Below.refl _ _).alloc (Nat.le_refl _) _) (fun _ => ⟨_, rfl, Nat.le_refl _⟩)
    trivial
  intro f1 y1 hb hf hne
  obtain ⟨g7, d7, lo7, bk7⟩ : NewB W0.heap.size 33 #[.int .u64 0, .int .u64 0, .int .u64 0, .int .u64 0, .int .u64 0, .int .u64 0, .int .u64 0, .int .u64 0, .int .u64 0, .int .u64 0, .int .u64 0, .int .u64 0, .int .u64 0, .int .u64 0, .int .u64 0, .int .u64 0] (f1 7) y1 := hf 4 _ _ (by decide) rfl rfl
  have d23 : f1 23 = .agg (av Wn) := hf 3 _ _ (by decide) rfl rfl
  clear hf hne
  simp only [d7, d23]
  refine stN (old := fun _ => 0) rfl rfl rfl rfl bk7 ?_
  intro v1 hW7 hgr hsz
  replace hA := (hA.below hb).grown hgr (fun hh => by injection hh with hh; have := hA.lt; omega)
  replace hB := (hB.below hb).grown hgr (fun hh => by injection hh with hh; have := hB.lt; omega)
  replace hZ := (hZ.below hb).grown hgr (fun hh => by injection hh with hh; have := hZ.lt; omega)
  replace hC := (hC.below hb).grown hgr (fun hh => by injection hh with hh; have := hC.lt; omega)
  replace hb0 := (hb0.trans (hb.mono hb0.size)).grown hgr (Nat.le_trans hb0.size hb.size) (fun k hk => by injection hk with hk; have := hb0.size; omega)
  clear hgr hsz hb bk7 d7 d23
  refine wpList_nil ?_
  go_wp2_with fail
  refine (hPc.out _).mono ?_
  rintro e1 wp ⟨rfl, hbx⟩
  replace hA := hA.below hbx
  replace hB := hB.below hbx
  replace hZ := hZ.below hbx
  replace hC := hC.below hbx
  replace hW7 := hW7.below hbx
  replace hb0 := hb0.trans (hbx.mono hb0.size)
  clear hbx
  have hAlt := hA.lt
  have hBlt := hB.lt
  have hZlt := hZ.lt
  have hClt := hC.lt
  have hW7lt := hW7.lt
  go_wp2_with (refine stN (old := fun _ => 0) rfl rfl rfl (f := pq) rfl (Blk.new _ _ _) ?_; intro wp1 hP8 hgr hsz; replace hA := (hA.alloc _).grown hgr (fun hh => by injection hh with hh; omega); replace hB := (hB.alloc _).grown hgr (fun hh => by injection hh with hh; omega); replace hZ := (hZ.alloc _).grown hgr (fun hh => by injection hh with hh; omega); replace hC := (hC.alloc _).grown hgr (fun hh => by injection hh with hh; omega); replace hW7 := (hW7.alloc _).grown hgr (fun hh => by injection hh with hh; omega); replace hb0 := (hb0.alloc hb0.size _).grown hgr (Nat.le_trans hb0.size (by simp)) (fun k hk => by injection hk with hk; have := hb0.size; omega); clear hgr hsz; have c0 := hP8.cell 0; rw [av_get _ _ (by decide), hp0.out] at c0; have hfr := fun j => hP8.frozen j)
  refine at_world (fun wp2 hW => ?_)
  replace hA := hA.far (p := ⟨wp.heap.size, 0, none⟩) (by show _ ≠ wp.heap.size; omega) (.int .u64 65520)
  rw [← hW] at hA
  replace hB := hB.far (p := ⟨wp.heap.size, 0, none⟩) (by show _ ≠ wp.heap.size; omega) (.int .u64 65520)
  rw [← hW] at hB
  replace hZ := hZ.far (p := ⟨wp.heap.size, 0, none⟩) (by show _ ≠ wp.heap.size; omega) (.int .u64 65520)
  rw [← hW] at hZ
  replace hC := hC.far (p := ⟨wp.heap.size, 0, none⟩) (by show _ ≠ wp.heap.size; omega) (.int .u64 65520)
  rw [← hW] at hC
  replace hW7 := hW7.far (p := ⟨wp.heap.size, 0, none⟩) (by show _ ≠ wp.heap.size; omega) (.int .u64 65520)
  rw [← hW] at hW7
  replace hP8 := hP8.set_ 0 (.int .u64 65520)
  rw [av_set _ _ _ (by decide), ← hW] at hP8
  replace hb0 := hb0.setCell (p := ⟨wp.heap.size, 0, none⟩) (by show w.heap.size ≤ wp.heap.size; omega) (.int .u64 65520)
  rw [← hW] at hb0
  clear hW c0 hfr hAlt hBlt hZlt hClt hW7lt
  generalize wp.heap.size = g8 at *
  refine wp_region_grow2 7 (fun k => Nat.beq k 9 || (Nat.ble 29 k && Nat.ble k 34)) _ [] (fun j x' q => (rRoot_b9L Wn pq E1 E2 E3 r0 wp2.heap.size).getD j (fun _ _ => True) x' q) (fun j => j == 6) (fun f => #[.agg (av A), .agg (av B), .pointer (some ⟨w.heap.size, 0, none⟩), .pointer (some ⟨w.heap.size + 1, 0, none⟩), .pointer (some ⟨w.heap.size + 1 + 1, 0, none⟩), .bool false, .pointer (some ⟨w.heap.size + 1 + 1 + 1, 0, none⟩), .pointer (some ⟨g7, 0, none⟩), .pointer (some ⟨g8, 0, none⟩), f 9, undef, .agg (av (fun _ => 0)), .agg (av A), .agg (av (fun _ => 0)), .bool false, undef, .agg (av B), .agg (av (fun _ => 0)), .bool false, undef, f1 20, f1 21, f1 22, .agg (av Wn), .agg (av pq), .pointer (some ⟨g8, 0, none⟩), .int .u64 65517, .int .u64 65520, .pointer (some ⟨g8, 0, none⟩), f 29, f 30, f 31, f 32, f 33, f 34, undef, undef, undef, undef, undef, undef, undef, undef, undef, undef, undef, undef, undef, undef, undef, undef, undef, undef, undef, undef, undef, undef, undef, undef, undef, undef, undef, undef, undef]) (fun f => rfl) (by kernel_rfl) (by kernel_rfl) (by kernel_rfl) (by kernel_rfl) (by kernel_rfl) (rRoot_b9S _ _ _ _ _ _ _) (rRoot_b9O _ _ _ _ _ _ _) ?_ ?_
  · refine steps2_cons ?_ ?_
    · as_aux_lemma =>
      intro f w1 hb hd Q hK
      clear hd
      have hK := Lib.hid hK
      refine ldN rfl rfl rfl (hW7.below hb) ?_
      go_wp2
      exact hK.out _ _ rfl (.refl _ _) nof
    refine steps2_cons ?_ ?_
    · as_aux_lemma =>
      intro f w1 hb hd Q hK
      clear hd
      have hK := Lib.hid hK
      refine ldN rfl rfl rfl (hP8.below hb) ?_
      go_wp2
      exact hK.out _ _ rfl (.refl _ _) nof
    refine steps2_cons ?_ ?_
    · as_aux_lemma =>
      intro f w1 hb hd Q hK
      have e30 : f 30 = .agg (av (Dg.up pq 0 65520)) := hd.1 rfl
      clear hd
      simp only [e30] at hK
      have hK := Lib.hid hK
      go_wp2_with fail
      refine (h1.out _).mono ?_
      rintro e w2 ⟨rfl, hb2⟩
      go_wp2
      exact hK.out _ _ rfl hb2 nof
    refine steps2_cons ?_ ?_
    · as_aux_lemma =>
      intro f w1 hb hd Q hK
      have e31 : f 31 = .agg (av E1) := hd.1 rfl
      clear hd
      simp only [e31] at hK
      have hK := Lib.hid hK
      go_wp2_with fail
      refine (h2.out _).mono ?_
      rintro e w2 ⟨rfl, hb2⟩
      go_wp2
      exact hK.out _ _ rfl hb2 nof
    refine steps2_cons ?_ ?_
    · as_aux_lemma =>
      intro f w1 hb hd Q hK
      have e32 : f 32 = .agg (av E2) := hd.1 rfl
      clear hd
      simp only [e32] at hK
      have hK := Lib.hid hK
      go_wp2_with fail
      refine (h3.out _).mono ?_
      rintro e w2 ⟨rfl, hb2⟩
      go_wp2
      exact hK.out _ _ rfl hb2 nof
    refine steps2_cons ?_ ?_
    · as_aux_lemma =>
      intro f w1 hb hd Q hK
      have e29 : f 29 = .agg (av Wn) := hd.1 rfl
      have e33 : f 33 = .agg (av E3) := hd.2.1 rfl
      clear hd
      simp only [e29, e33] at hK
      have hK := Lib.hid hK
      go_wp2_with fail
      refine (cr.out _).mono ?_
      rintro e w2 ⟨rfl, hb2⟩
      go_wp2
      exact hK.out _ _ rfl hb2 nof
    refine steps2_cons ?_ ?_
    · as_aux_lemma =>
      intro f w1 hb hd Q hK
      clear hd
      have hK := Lib.hid hK
      have hsz := hb.size
      go_wp2
      exact hK.out _ _ ⟨_, rfl, hsz, Blk.new _ _ _⟩ ((Below.refl _ _).alloc (Nat.le_refl _) _) (fun _ => ⟨_, rfl, Nat.le_refl _⟩)
    trivial
  intro f2 y2 hb hf hne
  obtain ⟨g9, d9, lo9, bk9⟩ : NewB wp2.heap.size 33 #[.int .u64 0, .int .u64 0, .int .u64 0, .int .u64 0, .int .u64 0, .int .u64 0, .int .u64 0, .int .u64 0, .int .u64 0, .int .u64 0, .int .u64 0, .int .u64 0, .int .u64 0, .int .u64 0, .int .u64 0, .int .u64 0] (f2 9) y2 := hf 6 _ _ (by decide) rfl rfl
  have d34 : f2 34 = .agg (av r0) := hf 5 _ _ (by decide) rfl rfl
  clear hf hne
  simp only [d9, d34]
  refine stN (old := fun _ => 0) rfl rfl rfl rfl bk9 ?_
  intro v2 hR hgr hsz
  have HNhA := Lib.hid (show w.heap.size ≠ g9 from by have := hA.lt; omega)
  have HNhB := Lib.hid (show w.heap.size + 1 ≠ g9 from by have := hB.lt; omega)
  have HNhZ := Lib.hid (show w.heap.size + 1 + 1 ≠ g9 from by have := hZ.lt; omega)
  have HNhC := Lib.hid (show w.heap.size + 1 + 1 + 1 ≠ g9 from by have := hC.lt; omega)
  have HNhW7 := Lib.hid (show g7 ≠ g9 from by have := hW7.lt; omega)
  have HNhP8 := Lib.hid (show g8 ≠ g9 from by have := hP8.lt; omega)
  have HNb := Lib.hid (show w.heap.size ≤ g9 from by have := hb0.size; omega)
  replace hA := (hA.below hb).grown hgr (fun hh => by injection hh with hh; have := hA.lt; omega)
  replace hB := (hB.below hb).grown hgr (fun hh => by injection hh with hh; have := hB.lt; omega)
  replace hZ := (hZ.below hb).grown hgr (fun hh => by injection hh with hh; have := hZ.lt; omega)
  replace hC := (hC.below hb).grown hgr (fun hh => by injection hh with hh; have := hC.lt; omega)
  replace hW7 := (hW7.below hb).grown hgr (fun hh => by injection hh with hh; have := hW7.lt; omega)
  replace hP8 := (hP8.below hb).grown hgr (fun hh => by injection hh with hh; have := hP8.lt; omega)
  replace hb0 := (hb0.trans (hb.mono hb0.size)).grown hgr (Nat.le_trans hb0.size hb.size) (fun k hk => by injection hk with hk; have := hb0.size; omega)
  clear hgr hsz hb bk9 d9 d34
  refine wpList_nil ?_
  go_wp2
  refine wp_region_grow2 5 (fun k => (Nat.ble 35 k && Nat.ble k 39)) _ [] (fun j x' q => (rRoot_b10L Wn r0 q0).getD j (fun _ _ => True) x' q) (fun _ => false) (fun f => #[.agg (av A), .agg (av B), .pointer (some ⟨w.heap.size, 0, none⟩), .pointer (some ⟨w.heap.size + 1, 0, none⟩), .pointer (some ⟨w.heap.size + 1 + 1, 0, none⟩), .bool false, .pointer (some ⟨w.heap.size + 1 + 1 + 1, 0, none⟩), .pointer (some ⟨g7, 0, none⟩), .pointer (some ⟨g8, 0, none⟩), .pointer (some ⟨g9, 0, none⟩), undef, .agg (av (fun _ => 0)), .agg (av A), .agg (av (fun _ => 0)), .bool false, undef, .agg (av B), .agg (av (fun _ => 0)), .bool false, undef, f1 20, f1 21, f1 22, .agg (av Wn), .agg (av pq), .pointer (some ⟨g8, 0, none⟩), .int .u64 65517, .int .u64 65520, .pointer (some ⟨g8, 0, none⟩), f2 29, f2 30, f2 31, f2 32, f2 33, .agg (av r0), f 35, f 36, f 37, f 38, f 39, undef, undef, undef, undef, undef, undef, undef, undef, undef, undef, undef, undef, undef, undef, undef, undef, undef, undef, undef, undef, undef, undef, undef, undef]) (fun f => rfl) (by kernel_rfl) (by kernel_rfl) (by kernel_rfl) (by kernel_rfl) (by kernel_rfl) (rRoot_b10S _ _ _) (fun _ _ _ h => by cases h) ?_ ?_
  · refine steps2_cons ?_ ?_
    · as_aux_lemma =>
      intro f w1 hb hd Q hK
      clear hd
      have hK := Lib.hid hK
      refine ldN rfl rfl rfl (hR.below hb) ?_
      go_wp2
      exact hK.out _ _ rfl (.refl _ _) nof
    refine steps2_cons ?_ ?_
    · as_aux_lemma =>
      intro f w1 hb hd Q hK
      clear hd
      have hK := Lib.hid hK
      refine ldN rfl rfl rfl (hR.below hb) ?_
      go_wp2
      exact hK.out _ _ rfl (.refl _ _) nof
    refine steps2_cons ?_ ?_
    · as_aux_lemma =>
      intro f w1 hb hd Q hK
      have e35 : f 35 = .agg (av r0) := hd.1 rfl
      have e36 : f 36 = .agg (av r0) := hd.2.1 rfl
      clear hd
      simp only [e35, e36] at hK
      have hK := Lib.hid hK
      go_wp2_with fail
      refine (cq.out _).mono ?_
      rintro e w2 ⟨rfl, hb2⟩
      go_wp2
      exact hK.out _ _ rfl hb2 nof
    refine steps2_cons ?_ ?_
    · as_aux_lemma =>
      intro f w1 hb hd Q hK
      clear hd
      have hK := Lib.hid hK
      refine ldN rfl rfl rfl (hW7.below hb) ?_
      go_wp2
      exact hK.out _ _ rfl (.refl _ _) nof
    refine steps2_cons ?_ ?_
    · as_aux_lemma =>
      intro f w1 hb hd Q hK
      have e37 : f 37 = .agg (av q0) := hd.1 rfl
      have e38 : f 38 = .agg (av Wn) := hd.2.1 rfl
      clear hd
      simp only [e37, e38] at hK
      have hK := Lib.hid hK
      have hq := e1.out
      go_wp2
      exact hK.out _ _ rfl (.refl _ _) nof
    trivial
  intro f3 y3 hb hf hne
  refine wpList_nil ?_
  have d39 : f3 39 = .bool true := hf 4 _ _ (by decide) rfl rfl
  clear hf hne
  replace hA := hA.below hb
  replace hB := hB.below hb
  replace hZ := hZ.below hb
  replace hC := hC.below hb
  replace hW7 := hW7.below hb
  replace hP8 := hP8.below hb
  replace hR := hR.below hb
  replace hb0 := hb0.trans (hb.mono hb0.size)
  clear hb
  simp only [d39]
  clear d39
  go_wp2_with fail
  refine (hPc.out _).mono ?_
  rintro e1 wq ⟨rfl, hbx⟩
  replace hA := hA.below hbx
  replace hB := hB.below hbx
  replace hZ := hZ.below hbx
  replace hC := hC.below hbx
  replace hW7 := hW7.below hbx
  replace hP8 := hP8.below hbx
  replace hR := hR.below hbx
  replace hb0 := hb0.trans (hbx.mono hb0.size)
  clear hbx
  have hAlt := hA.lt
  have hBlt := hB.lt
  have hZlt := hZ.lt
  have hClt := hC.lt
  have hW7lt := hW7.lt
  have hP8lt := hP8.lt
  have hRlt := hR.lt
  go_wp2_with (refine stN (old := fun _ => 0) rfl rfl rfl (f := pq) rfl (Blk.new _ _ _) ?_; intro wq1 hP10 hgr hsz; replace hA := (hA.alloc _).grown hgr (fun hh => by injection hh with hh; omega); replace hB := (hB.alloc _).grown hgr (fun hh => by injection hh with hh; omega); replace hZ := (hZ.alloc _).grown hgr (fun hh => by injection hh with hh; omega); replace hC := (hC.alloc _).grown hgr (fun hh => by injection hh with hh; omega); replace hW7 := (hW7.alloc _).grown hgr (fun hh => by injection hh with hh; omega); replace hP8 := (hP8.alloc _).grown hgr (fun hh => by injection hh with hh; omega); replace hR := (hR.alloc _).grown hgr (fun hh => by injection hh with hh; omega); replace hb0 := (hb0.alloc hb0.size _).grown hgr (Nat.le_trans hb0.size (by simp)) (fun k hk => by injection hk with hk; have := hb0.size; omega); clear hgr hsz; have c0 := hP10.cell 0; rw [av_get _ _ (by decide), hp0.out] at c0; have hfr := fun j => hP10.frozen j)
  refine at_world (fun wq2 hW => ?_)
  replace hA := hA.far (p := ⟨wq.heap.size, 0, none⟩) (by show _ ≠ wq.heap.size; omega) (.int .u64 65516)
  rw [← hW] at hA
  replace hB := hB.far (p := ⟨wq.heap.size, 0, none⟩) (by show _ ≠ wq.heap.size; omega) (.int .u64 65516)
  rw [← hW] at hB
  replace hZ := hZ.far (p := ⟨wq.heap.size, 0, none⟩) (by show _ ≠ wq.heap.size; omega) (.int .u64 65516)
  rw [← hW] at hZ
  replace hC := hC.far (p := ⟨wq.heap.size, 0, none⟩) (by show _ ≠ wq.heap.size; omega) (.int .u64 65516)
  rw [← hW] at hC
  replace hW7 := hW7.far (p := ⟨wq.heap.size, 0, none⟩) (by show _ ≠ wq.heap.size; omega) (.int .u64 65516)
  rw [← hW] at hW7
  replace hP8 := hP8.far (p := ⟨wq.heap.size, 0, none⟩) (by show _ ≠ wq.heap.size; omega) (.int .u64 65516)
  rw [← hW] at hP8
  replace hR := hR.far (p := ⟨wq.heap.size, 0, none⟩) (by show _ ≠ wq.heap.size; omega) (.int .u64 65516)
  rw [← hW] at hR
  replace hP10 := hP10.set_ 0 (.int .u64 65516)
  rw [av_set _ _ _ (by decide), ← hW] at hP10
  replace hb0 := hb0.setCell (p := ⟨wq.heap.size, 0, none⟩) (by show w.heap.size ≤ wq.heap.size; omega) (.int .u64 65516)
  rw [← hW] at hb0
  clear hW c0 hfr hAlt hBlt hZlt hClt hW7lt hP8lt hRlt
  generalize wq.heap.size = g10 at *
  refine wp_region_grow2 7 (fun k => (Nat.ble 45 k && Nat.ble k 51)) _ [] (fun j x' q => (rRoot_b13L pq r0 K2 F1 F2 kk r1).getD j (fun _ _ => True) x' q) (fun _ => false) (fun f => #[.agg (av A), .agg (av B), .pointer (some ⟨w.heap.size, 0, none⟩), .pointer (some ⟨w.heap.size + 1, 0, none⟩), .pointer (some ⟨w.heap.size + 1 + 1, 0, none⟩), .bool false, .pointer (some ⟨w.heap.size + 1 + 1 + 1, 0, none⟩), .pointer (some ⟨g7, 0, none⟩), .pointer (some ⟨g8, 0, none⟩), .pointer (some ⟨g9, 0, none⟩), .pointer (some ⟨g10, 0, none⟩), .agg (av (fun _ => 0)), .agg (av A), .agg (av (fun _ => 0)), .bool false, undef, .agg (av B), .agg (av (fun _ => 0)), .bool false, undef, f1 20, f1 21, f1 22, .agg (av Wn), .agg (av pq), .pointer (some ⟨g8, 0, none⟩), .int .u64 65517, .int .u64 65520, .pointer (some ⟨g8, 0, none⟩), f2 29, f2 30, f2 31, f2 32, f2 33, .agg (av r0), f3 35, f3 36, f3 37, f3 38, .bool true, .agg (av pq), .pointer (some ⟨g10, 0, none⟩), .int .u64 65517, .int .u64 65516, .pointer (some ⟨g10, 0, none⟩), f 45, f 46, f 47, f 48, f 49, f 50, f 51, undef, undef, undef, undef, undef, undef, undef, undef, undef, undef, undef, undef]) (fun f => rfl) (by kernel_rfl) (by kernel_rfl) (by kernel_rfl) (by kernel_rfl) (by kernel_rfl) (rRoot_b13S _ _ _ _ _ _ _) (fun _ _ _ h => by cases h) ?_ ?_
  · refine steps2_cons ?_ ?_
    · as_aux_lemma =>
      intro f w1 hb hd Q hK
      clear hd
      have hK := Lib.hid hK
      refine ldN rfl rfl rfl (hR.below hb) ?_
      go_wp2
      exact hK.out _ _ rfl (.refl _ _) nof
    refine steps2_cons ?_ ?_
    · as_aux_lemma =>
      intro f w1 hb hd Q hK
      clear hd
      have hK := Lib.hid hK
      go_wp2_with fail
      refine (cs2.out _).mono ?_
      rintro e w2 ⟨rfl, hb2⟩
      go_wp2
      exact hK.out _ _ rfl hb2 nof
    refine steps2_cons ?_ ?_
    · as_aux_lemma =>
      intro f w1 hb hd Q hK
      clear hd
      have hK := Lib.hid hK
      refine ldN rfl rfl rfl (hP10.below hb) ?_
      go_wp2
      exact hK.out _ _ rfl (.refl _ _) nof
    refine steps2_cons ?_ ?_
    · as_aux_lemma =>
      intro f w1 hb hd Q hK
      have e47 : f 47 = .agg (av (Dg.up pq 0 65516)) := hd.1 rfl
      clear hd
      simp only [e47] at hK
      have hK := Lib.hid hK
      go_wp2_with fail
      refine (g1.out _).mono ?_
      rintro e w2 ⟨rfl, hb2⟩
      go_wp2
      exact hK.out _ _ rfl hb2 nof
    refine steps2_cons ?_ ?_
    · as_aux_lemma =>
      intro f w1 hb hd Q hK
      have e48 : f 48 = .agg (av F1) := hd.1 rfl
      clear hd
      simp only [e48] at hK
      have hK := Lib.hid hK
      go_wp2_with fail
      refine (g2.out _).mono ?_
      rintro e w2 ⟨rfl, hb2⟩
      go_wp2
      exact hK.out _ _ rfl hb2 nof
    refine steps2_cons ?_ ?_
    · as_aux_lemma =>
      intro f w1 hb hd Q hK
      have e46 : f 46 = .agg (av K2) := hd.1 rfl
      have e49 : f 49 = .agg (av F2) := hd.2.1 rfl
      clear hd
      simp only [e46, e49] at hK
      have hK := Lib.hid hK
      go_wp2_with fail
      refine (ck.out _).mono ?_
      rintro e w2 ⟨rfl, hb2⟩
      go_wp2
      exact hK.out _ _ rfl hb2 nof
    refine steps2_cons ?_ ?_
    · as_aux_lemma =>
      intro f w1 hb hd Q hK
      have e45 : f 45 = .agg (av r0) := hd.1 rfl
      have e50 : f 50 = .agg (av kk) := hd.2.1 rfl
      clear hd
      simp only [e45, e50] at hK
      have hK := Lib.hid hK
      go_wp2_with fail
      refine (ct.out _).mono ?_
      rintro e w2 ⟨rfl, hb2⟩
      go_wp2
      exact hK.out _ _ rfl hb2 nof
    trivial
  intro f4 y4 hb hf hne
  have d51 : f4 51 = .agg (av r1) := hf 6 _ _ (by decide) rfl rfl
  clear hf hne
  replace hA := hA.below hb
  replace hB := hB.below hb
  replace hZ := hZ.below hb
  replace hC := hC.below hb
  replace hW7 := hW7.below hb
  replace hP8 := hP8.below hb
  replace hR := hR.below hb
  replace hP10 := hP10.below hb
  replace hb0 := hb0.trans (hb.mono hb0.size)
  clear hb
  simp only [d51]
  refine stN rfl rfl rfl rfl hR ?_
  intro v13 hR13 hgr hsz
  replace hA := hA.grown hgr (fun hh => HNhA.out (by injection hh))
  replace hB := hB.grown hgr (fun hh => HNhB.out (by injection hh))
  replace hZ := hZ.grown hgr (fun hh => HNhZ.out (by injection hh))
  replace hC := hC.grown hgr (fun hh => HNhC.out (by injection hh))
  replace hW7 := hW7.grown hgr (fun hh => HNhW7.out (by injection hh))
  replace hP8 := hP8.grown hgr (fun hh => HNhP8.out (by injection hh))
  replace hb0 := hb0.grown hgr hb0.size (fun k hk => by injection hk with hk; have := HNb.out; omega)
  clear hgr hsz d51 hR
  have hR := hR13
  clear hR13 hP10
  refine wpList_nil ?_
  go_wp2
  refine wp_region_grow2 5 (fun k => (Nat.ble 52 k && Nat.ble k 56)) _ [] (fun j x' q => (rRoot_b14L Wn r1 q1).getD j (fun _ _ => True) x' q) (fun _ => false) (fun f => #[.agg (av A), .agg (av B), .pointer (some ⟨w.heap.size, 0, none⟩), .pointer (some ⟨w.heap.size + 1, 0, none⟩), .pointer (some ⟨w.heap.size + 1 + 1, 0, none⟩), .bool false, .pointer (some ⟨w.heap.size + 1 + 1 + 1, 0, none⟩), .pointer (some ⟨g7, 0, none⟩), .pointer (some ⟨g8, 0, none⟩), .pointer (some ⟨g9, 0, none⟩), .pointer (some ⟨g10, 0, none⟩), .agg (av (fun _ => 0)), .agg (av A), .agg (av (fun _ => 0)), .bool false, undef, .agg (av B), .agg (av (fun _ => 0)), .bool false, undef, f1 20, f1 21, f1 22, .agg (av Wn), .agg (av pq), .pointer (some ⟨g8, 0, none⟩), .int .u64 65517, .int .u64 65520, .pointer (some ⟨g8, 0, none⟩), f2 29, f2 30, f2 31, f2 32, f2 33, .agg (av r0), f3 35, f3 36, f3 37, f3 38, .bool true, .agg (av pq), .pointer (some ⟨g10, 0, none⟩), .int .u64 65517, .int .u64 65516, .pointer (some ⟨g10, 0, none⟩), f4 45, f4 46, f4 47, f4 48, f4 49, f4 50, .agg (av r1), f 52, f 53, f 54, f 55, f 56, undef, undef, undef, undef, undef, undef, undef]) (fun f => rfl) (by kernel_rfl) (by kernel_rfl) (by kernel_rfl) (by kernel_rfl) (by kernel_rfl) (rRoot_b14S _ _ _) (fun _ _ _ h => by cases h) ?_ ?_
  · refine steps2_cons ?_ ?_
    · as_aux_lemma =>
      intro f w1 hb hd Q hK
      clear hd
      have hK := Lib.hid hK
      refine ldN rfl rfl rfl (hR.below hb) ?_
      go_wp2
      exact hK.out _ _ rfl (.refl _ _) nof
    refine steps2_cons ?_ ?_
    · as_aux_lemma =>
      intro f w1 hb hd Q hK
      clear hd
      have hK := Lib.hid hK
      refine ldN rfl rfl rfl (hR.below hb) ?_
      go_wp2
      exact hK.out _ _ rfl (.refl _ _) nof
    refine steps2_cons ?_ ?_
    · as_aux_lemma =>
      intro f w1 hb hd Q hK
      have e52 : f 52 = .agg (av r1) := hd.1 rfl
      have e53 : f 53 = .agg (av r1) := hd.2.1 rfl
      clear hd
      simp only [e52, e53] at hK
      have hK := Lib.hid hK
      go_wp2_with fail
      refine (cq1.out _).mono ?_
      rintro e w2 ⟨rfl, hb2⟩
      go_wp2
      exact hK.out _ _ rfl hb2 nof
    refine steps2_cons ?_ ?_
    · as_aux_lemma =>
      intro f w1 hb hd Q hK
      clear hd
      have hK := Lib.hid hK
      refine ldN rfl rfl rfl (hW7.below hb) ?_
      go_wp2
      exact hK.out _ _ rfl (.refl _ _) nof
    refine steps2_cons ?_ ?_
    · as_aux_lemma =>
      intro f w1 hb hd Q hK
      have e54 : f 54 = .agg (av q1) := hd.1 rfl
      have e55 : f 55 = .agg (av Wn) := hd.2.1 rfl
      clear hd
      simp only [e54, e55] at hK
      have hK := Lib.hid hK
      have hq := e2.out
      go_wp2
      exact hK.out _ _ rfl (.refl _ _) nof
    trivial
  intro f5 y5 hb hf hne
  refine wpList_nil ?_
  have d56 : f5 56 = .bool true := hf 4 _ _ (by decide) rfl rfl
  clear hf hne
  replace hA := hA.below hb
  replace hB := hB.below hb
  replace hZ := hZ.below hb
  replace hC := hC.below hb
  replace hW7 := hW7.below hb
  replace hP8 := hP8.below hb
  replace hR := hR.below hb
  replace hb0 := hb0.trans (hb.mono hb0.size)
  clear hb
  simp only [d56]
  clear d56
  go_wp2_with (first | (refine ldN rfl rfl rfl hC ?_) | (refine stN rfl rfl rfl rfl hZ ?_; intro W9 hnew hgr9 hsz9))
  exact retN2 rfl rfl hnew rfl rfl ⟨rfl, hb0.grown hgr9 hb0.size (fun k h => by injection h; omega)⟩
def rRoot_d6L (A : Nat → Int) (B : Nat → Int) (I : Nat → Int) (Wn : Nat → Int) (B0 : Nat) : List (Value → World → Prop) := [
  Eq1 (.agg (av A)),
  Eq1 (.agg (av B)),
  Eq1 (.agg (av I)),
  Eq1 (.agg (av Wn)),
  NewB B0 33 #[.int .u64 0, .int .u64 0, .int .u64 0, .int .u64 0, .int .u64 0, .int .u64 0, .int .u64 0, .int .u64 0, .int .u64 0, .int .u64 0, .int .u64 0, .int .u64 0, .int .u64 0, .int .u64 0, .int .u64 0, .int .u64 0]]
theorem rRoot_d6S (A : Nat → Int) (B : Nat → Int) (I : Nat → Int) (Wn : Nat → Int) (B0 : Nat) : ∀ j x' q q', (rRoot_d6L A B I Wn B0).getD j (fun _ _ => True) x' q → Below q.heap.size q q' → (rRoot_d6L A B I Wn B0).getD j (fun _ _ => True) x' q' := by
  refine sta_all _ ?_
  simp only [rRoot_d6L, List.mem_cons, forall_eq_or_imp, List.not_mem_nil, false_implies, implies_true, and_true]
  exact ⟨sta_eq _, sta_eq _, sta_eq _, sta_eq _, sta_new _ _ _⟩
theorem rRoot_d6O (A : Nat → Int) (B : Nat → Int) (I : Nat → Int) (Wn : Nat → Int) (B0 : Nat) : ∀ j x' q, (fun j => j == 4) j = true → (rRoot_d6L A B I Wn B0).getD j (fun _ _ => True) x' q → ∀ g, x' = .pointer (some ⟨g, 0, none⟩) → g < q.heap.size := by
  intro j x' q hj hv g e
  have hj' : j = 4 := by simpa using hj
  subst hj'
  all_goals exact new_lt hv e
def rRoot_d9L (Wn : Nat → Int) (pq : Nat → Int) (E1 : Nat → Int) (E2 : Nat → Int) (E3 : Nat → Int) (r0 : Nat → Int) (B0 : Nat) : List (Value → World → Prop) := [
  Eq1 (.agg (av Wn)),
  Eq1 (.agg (av (Dg.up pq 0 65520))),
  Eq1 (.agg (av E1)),
  Eq1 (.agg (av E2)),
  Eq1 (.agg (av E3)),
  Eq1 (.agg (av r0)),
  NewB B0 33 #[.int .u64 0, .int .u64 0, .int .u64 0, .int .u64 0, .int .u64 0, .int .u64 0, .int .u64 0, .int .u64 0, .int .u64 0, .int .u64 0, .int .u64 0, .int .u64 0, .int .u64 0, .int .u64 0, .int .u64 0, .int .u64 0]]
theorem rRoot_d9S (Wn : Nat → Int) (pq : Nat → Int) (E1 : Nat → Int) (E2 : Nat → Int) (E3 : Nat → Int) (r0 : Nat → Int) (B0 : Nat) : ∀ j x' q q', (rRoot_d9L Wn pq E1 E2 E3 r0 B0).getD j (fun _ _ => True) x' q → Below q.heap.size q q' → (rRoot_d9L Wn pq E1 E2 E3 r0 B0).getD j (fun _ _ => True) x' q' := by
  refine sta_all _ ?_
  simp only [rRoot_d9L, List.mem_cons, forall_eq_or_imp, List.not_mem_nil, false_implies, implies_true, and_true]
  exact ⟨sta_eq _, sta_eq _, sta_eq _, sta_eq _, sta_eq _, sta_eq _, sta_new _ _ _⟩
theorem rRoot_d9O (Wn : Nat → Int) (pq : Nat → Int) (E1 : Nat → Int) (E2 : Nat → Int) (E3 : Nat → Int) (r0 : Nat → Int) (B0 : Nat) : ∀ j x' q, (fun j => j == 6) j = true → (rRoot_d9L Wn pq E1 E2 E3 r0 B0).getD j (fun _ _ => True) x' q → ∀ g, x' = .pointer (some ⟨g, 0, none⟩) → g < q.heap.size := by
  intro j x' q hj hv g e
  have hj' : j = 6 := by simpa using hj
  subst hj'
  all_goals exact new_lt hv e
def rRoot_d10L (Wn : Nat → Int) (r0 : Nat → Int) (q0 : Nat → Int) : List (Value → World → Prop) := [
  Eq1 (.agg (av r0)),
  Eq1 (.agg (av r0)),
  Eq1 (.agg (av q0)),
  Eq1 (.agg (av Wn)),
  Eq1 (.bool true)]
theorem rRoot_d10S (Wn : Nat → Int) (r0 : Nat → Int) (q0 : Nat → Int) : ∀ j x' q q', (rRoot_d10L Wn r0 q0).getD j (fun _ _ => True) x' q → Below q.heap.size q q' → (rRoot_d10L Wn r0 q0).getD j (fun _ _ => True) x' q' := by
  refine sta_all _ ?_
  simp only [rRoot_d10L, List.mem_cons, forall_eq_or_imp, List.not_mem_nil, false_implies, implies_true, and_true]
  exact ⟨sta_eq _, sta_eq _, sta_eq _, sta_eq _, sta_eq _⟩
def rRoot_d13L (pq : Nat → Int) (r0 : Nat → Int) (K2 : Nat → Int) (F1 : Nat → Int) (F2 : Nat → Int) (kk : Nat → Int) (r1 : Nat → Int) : List (Value → World → Prop) := [
  Eq1 (.agg (av r0)),
  Eq1 (.agg (av K2)),
  Eq1 (.agg (av (Dg.up pq 0 65516))),
  Eq1 (.agg (av F1)),
  Eq1 (.agg (av F2)),
  Eq1 (.agg (av kk)),
  Eq1 (.agg (av r1))]
theorem rRoot_d13S (pq : Nat → Int) (r0 : Nat → Int) (K2 : Nat → Int) (F1 : Nat → Int) (F2 : Nat → Int) (kk : Nat → Int) (r1 : Nat → Int) : ∀ j x' q q', (rRoot_d13L pq r0 K2 F1 F2 kk r1).getD j (fun _ _ => True) x' q → Below q.heap.size q q' → (rRoot_d13L pq r0 K2 F1 F2 kk r1).getD j (fun _ _ => True) x' q' := by
  refine sta_all _ ?_
  simp only [rRoot_d13L, List.mem_cons, forall_eq_or_imp, List.not_mem_nil, false_implies, implies_true, and_true]
  exact ⟨sta_eq _, sta_eq _, sta_eq _, sta_eq _, sta_eq _, sta_eq _, sta_eq _⟩
def rRoot_d14L (Wn : Nat → Int) (r1 : Nat → Int) (q1 : Nat → Int) : List (Value → World → Prop) := [
  Eq1 (.agg (av r1)),
  Eq1 (.agg (av r1)),
  Eq1 (.agg (av q1)),
  Eq1 (.agg (av Wn)),
  Eq1 (.bool false)]
theorem rRoot_d14S (Wn : Nat → Int) (r1 : Nat → Int) (q1 : Nat → Int) : ∀ j x' q q', (rRoot_d14L Wn r1 q1).getD j (fun _ _ => True) x' q → Below q.heap.size q q' → (rRoot_d14L Wn r1 q1).getD j (fun _ _ => True) x' q' := by
  refine sta_all _ ?_
  simp only [rRoot_d14L, List.mem_cons, forall_eq_or_imp, List.not_mem_nil, false_implies, implies_true, and_true]
  exact ⟨sta_eq _, sta_eq _, sta_eq _, sta_eq _, sta_eq _⟩
set_option maxRecDepth 20000 in
set_option maxHeartbeats 8000000 in
set_option maxRecDepth 100000 in
theorem rRoot_d (A B I Wn pq E1 E2 E3 r0 q0 K2 F1 F2 kk r1 q1 rn : Nat → Int) (od : Bool) (ea : ∀ w, (binOp .eql 33 (.agg (av A)) (.agg (av fun _ => 0))).run Tryd.prog w = .ok (.bool false) w) (eb : ∀ w, (binOp .eql 33 (.agg (av B)) (.agg (av fun _ => 0))).run Tryd.prog w = .ok (.bool false) w) (hp0 : pq 0 = 65517)
    (cinv : ∀ w, Calls Tryd.prog 66 #[.agg (av B)] w (PostN I w))
    (cw : ∀ w, Calls Tryd.prog 60 #[.agg (av A), .agg (av I)] w (PostN Wn w))
    (hPc : ∀ w, Calls Tryd.prog 85 #[] w (PostN pq w))
    (h1 : ∀ w, Calls Tryd.prog 88 #[.agg (av (Dg.up pq 0 65520))] w (PostN E1 w))
    (h2 : ∀ w, Calls Tryd.prog 88 #[.agg (av E1)] w (PostN E2 w))
    (h3 : ∀ w, Calls Tryd.prog 88 #[.agg (av E2)] w (PostN E3 w))
    (cr : ∀ w, Calls Tryd.prog 87 #[.agg (av Wn), .agg (av E3)] w (PostN r0 w))
    (cq : ∀ w, Calls Tryd.prog 60 #[.agg (av r0), .agg (av r0)] w (PostN q0 w))
    (e1 : ∀ w, (binOp .neq 33 (.agg (av q0)) (.agg (av Wn))).run Tryd.prog w = .ok (.bool true) w)
    (cs2 : ∀ w, Calls Tryd.prog 89 #[.int .u64 2] w (PostN K2 w))
    (g1 : ∀ w, Calls Tryd.prog 88 #[.agg (av (Dg.up pq 0 65516))] w (PostN F1 w))
    (g2 : ∀ w, Calls Tryd.prog 88 #[.agg (av F1)] w (PostN F2 w))
    (ck : ∀ w, Calls Tryd.prog 87 #[.agg (av K2), .agg (av F2)] w (PostN kk w))
    (ct : ∀ w, Calls Tryd.prog 60 #[.agg (av r0), .agg (av kk)] w (PostN r1 w))
    (cq1 : ∀ w, Calls Tryd.prog 60 #[.agg (av r1), .agg (av r1)] w (PostN q1 w))
    (e2 : ∀ w, (binOp .neq 33 (.agg (av q1)) (.agg (av Wn))).run Tryd.prog w = .ok (.bool false) w)
    (cod : ∀ w, Calls Tryd.prog 90 #[.agg (av r1)] w (PostV (.bool od) w))
    (csn : od = true → ∀ w, Calls Tryd.prog 62 #[.agg (av (fun _ => 0)), .agg (av r1)] w (PostN rn w))
    (w : World) : Calls Tryd.prog 61 #[.agg (av A), .agg (av B)] w (PostR2 (if od then rn else r1) true w) := by
  replace cinv := Lib.hid cinv
  replace cw := Lib.hid cw
  replace hPc := Lib.hid hPc
  replace h1 := Lib.hid h1
  replace h2 := Lib.hid h2
  replace h3 := Lib.hid h3
  replace cr := Lib.hid cr
  replace cq := Lib.hid cq
  replace e1 := Lib.hid e1
  replace cs2 := Lib.hid cs2
  replace g1 := Lib.hid g1
  replace g2 := Lib.hid g2
  replace ck := Lib.hid ck
  replace ct := Lib.hid ct
  replace cq1 := Lib.hid cq1
  replace e2 := Lib.hid e2
  replace cod := Lib.hid cod
  replace csn := Lib.hid csn
  replace hp0 := Lib.hid hp0
  replace ea := Lib.hid ea
  replace eb := Lib.hid eb
  go_enter Tryd.func61, Tryd.ntmps61
  go_upto_region 2 with (fail)
  refine at_world (fun W0 hW => ?_)
  have hA : Blk W0 (w.heap.size) 33 (av A) := by rw [hW]; exact (((Blk.new _ _ _).alloc _).alloc _).alloc _
  have hB : Blk W0 (w.heap.size + 1) 33 (av B) := by rw [hW]; exact blk_at (by simp) (((Blk.new _ _ _).alloc _).alloc _)
  have hZ : Blk W0 (w.heap.size + 1 + 1) 33 (av fun _ => 0) := by rw [hW]; exact blk_at (by simp) ((Blk.new _ _ _).alloc _)
  have hC : Blk W0 (w.heap.size + 1 + 1 + 1) 33 (av fun _ => 0) := by rw [hW]; exact blk_at (by simp) (Blk.new _ _ _)
  have hb0 : Below w.heap.size w W0 := by rw [hW]; go_grown
  clear hW
  have qa := ea.out
  have qb := eb.out
  go_wp2_with (first | (refine ldN rfl rfl rfl hA ?_) | (refine ldN rfl rfl rfl hB ?_) | (refine ldN rfl rfl rfl hC ?_))
  clear qa qb ea eb
  refine wp_region_grow2 5 (fun k => Nat.beq k 7 || (Nat.ble 20 k && Nat.ble k 23)) _ [] (fun j x' q => (rRoot_d6L A B I Wn W0.heap.size).getD j (fun _ _ => True) x' q) (fun j => j == 4) (fun f => #[.agg (av A), .agg (av B), .pointer (some ⟨w.heap.size, 0, none⟩), .pointer (some ⟨w.heap.size + 1, 0, none⟩), .pointer (some ⟨w.heap.size + 1 + 1, 0, none⟩), .bool false, .pointer (some ⟨w.heap.size + 1 + 1 + 1, 0, none⟩), f 7, undef, undef, undef, .agg (av (fun _ => 0)), .agg (av A), .agg (av (fun _ => 0)), .bool false, undef, .agg (av B), .agg (av (fun _ => 0)), .bool false, undef, f 20, f 21, f 22, f 23, undef, undef, undef, undef, undef, undef, undef, undef, undef, undef, undef, undef, undef, undef, undef, undef, undef, undef, undef, undef, undef, undef, undef, undef, undef, undef, undef, undef, undef, undef, undef, undef, undef, undef, undef, undef, undef, undef, undef, undef]) (fun f => rfl) (by kernel_rfl) (by kernel_rfl) (by kernel_rfl) (by kernel_rfl) (by kernel_rfl) (rRoot_d6S _ _ _ _ _) (rRoot_d6O _ _ _ _ _) ?_ ?_
  · refine steps2_cons ?_ ?_
    · as_aux_lemma =>
      intro f w1 hb hd Q hK
      clear hd
      have hK := Lib.hid hK
      refine ldN rfl rfl rfl (hA.below hb) ?_
      go_wp2
      exact hK.out _ _ rfl (.refl _ _) nof
    refine steps2_cons ?_ ?_
    · as_aux_lemma =>
      intro f w1 hb hd Q hK
      clear hd
      have hK := Lib.hid hK
      refine ldN rfl rfl rfl (hB.below hb) ?_
      go_wp2
      exact hK.out _ _ rfl (.refl _ _) nof
    refine steps2_cons ?_ ?_
    · as_aux_lemma =>
      intro f w1 hb hd Q hK
      have e21 : f 21 = .agg (av B) := hd.1 rfl
      clear hd
      simp only [e21] at hK
      have hK := Lib.hid hK
      go_wp2_with fail
      refine (cinv.out _).mono ?_
      rintro e w2 ⟨rfl, hb2⟩
      go_wp2
      exact hK.out _ _ rfl hb2 nof
    refine steps2_cons ?_ ?_
    · as_aux_lemma =>
      intro f w1 hb hd Q hK
      have e20 : f 20 = .agg (av A) := hd.1 rfl
      have e22 : f 22 = .agg (av I) := hd.2.1 rfl
      clear hd
      simp only [e20, e22] at hK
      have hK := Lib.hid hK
      go_wp2_with fail
      refine (cw.out _).mono ?_
      rintro e w2 ⟨rfl, hb2⟩
      go_wp2
      exact hK.out _ _ rfl hb2 nof
    refine steps2_cons ?_ ?_
    · as_aux_lemma =>
      intro f w1 hb hd Q hK
      clear hd
      have hK := Lib.hid hK
      have hsz := hb.size
      go_wp2
      exact hK.out _ _ ⟨_, rfl, hsz, Blk.new _ _ _⟩ ((Below.refl _ _).alloc (Nat.le_refl _) _) (fun _ => ⟨_, rfl, Nat.le_refl _⟩)
    trivial
  intro f1 y1 hb hf hne
  obtain ⟨g7, d7, lo7, bk7⟩ : NewB W0.heap.size 33 #[.int .u64 0, .int .u64 0, .int .u64 0, .int .u64 0, .int .u64 0, .int .u64 0, .int .u64 0, .int .u64 0, .int .u64 0, .int .u64 0, .int .u64 0, .int .u64 0, .int .u64 0, .int .u64 0, .int .u64 0, .int .u64 0] (f1 7) y1 := hf 4 _ _ (by decide) rfl rfl
  have d23 : f1 23 = .agg (av Wn) := hf 3 _ _ (by decide) rfl rfl
  clear hf hne
  simp only [d7, d23]
  refine stN (old := fun _ => 0) rfl rfl rfl rfl bk7 ?_
  intro v1 hW7 hgr hsz
  replace hA := (hA.below hb).grown hgr (fun hh => by injection hh with hh; have := hA.lt; omega)
  replace hB := (hB.below hb).grown hgr (fun hh => by injection hh with hh; have := hB.lt; omega)
  replace hZ := (hZ.below hb).grown hgr (fun hh => by injection hh with hh; have := hZ.lt; omega)
  replace hC := (hC.below hb).grown hgr (fun hh => by injection hh with hh; have := hC.lt; omega)
  replace hb0 := (hb0.trans (hb.mono hb0.size)).grown hgr (Nat.le_trans hb0.size hb.size) (fun k hk => by injection hk with hk; have := hb0.size; omega)
  clear hgr hsz hb bk7 d7 d23
  refine wpList_nil ?_
  go_wp2_with fail
  refine (hPc.out _).mono ?_
  rintro e1 wp ⟨rfl, hbx⟩
  replace hA := hA.below hbx
  replace hB := hB.below hbx
  replace hZ := hZ.below hbx
  replace hC := hC.below hbx
  replace hW7 := hW7.below hbx
  replace hb0 := hb0.trans (hbx.mono hb0.size)
  clear hbx
  have hAlt := hA.lt
  have hBlt := hB.lt
  have hZlt := hZ.lt
  have hClt := hC.lt
  have hW7lt := hW7.lt
  go_wp2_with (refine stN (old := fun _ => 0) rfl rfl rfl (f := pq) rfl (Blk.new _ _ _) ?_; intro wp1 hP8 hgr hsz; replace hA := (hA.alloc _).grown hgr (fun hh => by injection hh with hh; omega); replace hB := (hB.alloc _).grown hgr (fun hh => by injection hh with hh; omega); replace hZ := (hZ.alloc _).grown hgr (fun hh => by injection hh with hh; omega); replace hC := (hC.alloc _).grown hgr (fun hh => by injection hh with hh; omega); replace hW7 := (hW7.alloc _).grown hgr (fun hh => by injection hh with hh; omega); replace hb0 := (hb0.alloc hb0.size _).grown hgr (Nat.le_trans hb0.size (by simp)) (fun k hk => by injection hk with hk; have := hb0.size; omega); clear hgr hsz; have c0 := hP8.cell 0; rw [av_get _ _ (by decide), hp0.out] at c0; have hfr := fun j => hP8.frozen j)
  refine at_world (fun wp2 hW => ?_)
  replace hA := hA.far (p := ⟨wp.heap.size, 0, none⟩) (by show _ ≠ wp.heap.size; omega) (.int .u64 65520)
  rw [← hW] at hA
  replace hB := hB.far (p := ⟨wp.heap.size, 0, none⟩) (by show _ ≠ wp.heap.size; omega) (.int .u64 65520)
  rw [← hW] at hB
  replace hZ := hZ.far (p := ⟨wp.heap.size, 0, none⟩) (by show _ ≠ wp.heap.size; omega) (.int .u64 65520)
  rw [← hW] at hZ
  replace hC := hC.far (p := ⟨wp.heap.size, 0, none⟩) (by show _ ≠ wp.heap.size; omega) (.int .u64 65520)
  rw [← hW] at hC
  replace hW7 := hW7.far (p := ⟨wp.heap.size, 0, none⟩) (by show _ ≠ wp.heap.size; omega) (.int .u64 65520)
  rw [← hW] at hW7
  replace hP8 := hP8.set_ 0 (.int .u64 65520)
  rw [av_set _ _ _ (by decide), ← hW] at hP8
  replace hb0 := hb0.setCell (p := ⟨wp.heap.size, 0, none⟩) (by show w.heap.size ≤ wp.heap.size; omega) (.int .u64 65520)
  rw [← hW] at hb0
  clear hW c0 hfr hAlt hBlt hZlt hClt hW7lt
  generalize wp.heap.size = g8 at *
  refine wp_region_grow2 7 (fun k => Nat.beq k 9 || (Nat.ble 29 k && Nat.ble k 34)) _ [] (fun j x' q => (rRoot_d9L Wn pq E1 E2 E3 r0 wp2.heap.size).getD j (fun _ _ => True) x' q) (fun j => j == 6) (fun f => #[.agg (av A), .agg (av B), .pointer (some ⟨w.heap.size, 0, none⟩), .pointer (some ⟨w.heap.size + 1, 0, none⟩), .pointer (some ⟨w.heap.size + 1 + 1, 0, none⟩), .bool false, .pointer (some ⟨w.heap.size + 1 + 1 + 1, 0, none⟩), .pointer (some ⟨g7, 0, none⟩), .pointer (some ⟨g8, 0, none⟩), f 9, undef, .agg (av (fun _ => 0)), .agg (av A), .agg (av (fun _ => 0)), .bool false, undef, .agg (av B), .agg (av (fun _ => 0)), .bool false, undef, f1 20, f1 21, f1 22, .agg (av Wn), .agg (av pq), .pointer (some ⟨g8, 0, none⟩), .int .u64 65517, .int .u64 65520, .pointer (some ⟨g8, 0, none⟩), f 29, f 30, f 31, f 32, f 33, f 34, undef, undef, undef, undef, undef, undef, undef, undef, undef, undef, undef, undef, undef, undef, undef, undef, undef, undef, undef, undef, undef, undef, undef, undef, undef, undef, undef, undef, undef]) (fun f => rfl) (by kernel_rfl) (by kernel_rfl) (by kernel_rfl) (by kernel_rfl) (by kernel_rfl) (rRoot_d9S _ _ _ _ _ _ _) (rRoot_d9O _ _ _ _ _ _ _) ?_ ?_
  · refine steps2_cons ?_ ?_
    · as_aux_lemma =>
      intro f w1 hb hd Q hK
      clear hd
      have hK := Lib.hid hK
      refine ldN rfl rfl rfl (hW7.below hb) ?_
      go_wp2
      exact hK.out _ _ rfl (.refl _ _) nof
    refine steps2_cons ?_ ?_
    · as_aux_lemma =>
      intro f w1 hb hd Q hK
      clear hd
      have hK := Lib.hid hK
      refine ldN rfl rfl rfl (hP8.below hb) ?_
      go_wp2
      exact hK.out _ _ rfl (.refl _ _) nof
    refine steps2_cons ?_ ?_
    · as_aux_lemma =>
      intro f w1 hb hd Q hK
      have e30 : f 30 = .agg (av (Dg.up pq 0 65520)) := hd.1 rfl
      clear hd
      simp only [e30] at hK
      have hK := Lib.hid hK
      go_wp2_with fail
      refine (h1.out _).mono ?_
      rintro e w2 ⟨rfl, hb2⟩
      go_wp2
      exact hK.out _ _ rfl hb2 nof
    refine steps2_cons ?_ ?_
    · as_aux_lemma =>
      intro f w1 hb hd Q hK
      have e31 : f 31 = .agg (av E1) := hd.1 rfl
      clear hd
      simp only [e31] at hK
      have hK := Lib.hid hK
      go_wp2_with fail
      refine (h2.out _).mono ?_
      rintro e w2 ⟨rfl, hb2⟩
      go_wp2
      exact hK.out _ _ rfl hb2 nof
    refine steps2_cons ?_ ?_
    · as_aux_lemma =>
      intro f w1 hb hd Q hK
      have e32 : f 32 = .agg (av E2) := hd.1 rfl
      clear hd
      simp only [e32] at hK
      have hK := Lib.hid hK
      go_wp2_with fail
      refine (h3.out _).mono ?_
      rintro e w2 ⟨rfl, hb2⟩
      go_wp2
      exact hK.out _ _ rfl hb2 nof
    refine steps2_cons ?_ ?_
    · as_aux_lemma =>
      intro f w1 hb hd Q hK
      have e29 : f 29 = .agg (av Wn) := hd.1 rfl
      have e33 : f 33 = .agg (av E3) := hd.2.1 rfl
      clear hd
      simp only [e29, e33] at hK
      have hK := Lib.hid hK
      go_wp2_with fail
      refine (cr.out _).mono ?_
      rintro e w2 ⟨rfl, hb2⟩
      go_wp2
      exact hK.out _ _ rfl hb2 nof
    refine steps2_cons ?_ ?_
    · as_aux_lemma =>
      intro f w1 hb hd Q hK
      clear hd
      have hK := Lib.hid hK
      have hsz := hb.size
      go_wp2
      exact hK.out _ _ ⟨_, rfl, hsz, Blk.new _ _ _⟩ ((Below.refl _ _).alloc (Nat.le_refl _) _) (fun _ => ⟨_, rfl, Nat.le_refl _⟩)
    trivial
  intro f2 y2 hb hf hne
  obtain ⟨g9, d9, lo9, bk9⟩ : NewB wp2.heap.size 33 #[.int .u64 0, .int .u64 0, .int .u64 0, .int .u64 0, .int .u64 0, .int .u64 0, .int .u64 0, .int .u64 0, .int .u64 0, .int .u64 0, .int .u64 0, .int .u64 0, .int .u64 0, .int .u64 0, .int .u64 0, .int .u64 0] (f2 9) y2 := hf 6 _ _ (by decide) rfl rfl
  have d34 : f2 34 = .agg (av r0) := hf 5 _ _ (by decide) rfl rfl
  clear hf hne
  simp only [d9, d34]
  refine stN (old := fun _ => 0) rfl rfl rfl rfl bk9 ?_
  intro v2 hR hgr hsz
  have HNhA := Lib.hid (show w.heap.size ≠ g9 from by have := hA.lt; omega)
  have HNhB := Lib.hid (show w.heap.size + 1 ≠ g9 from by have := hB.lt; omega)
  have HNhZ := Lib.hid (show w.heap.size + 1 + 1 ≠ g9 from by have := hZ.lt; omega)
  have HNhC := Lib.hid (show w.heap.size + 1 + 1 + 1 ≠ g9 from by have := hC.lt; omega)
  have HNhW7 := Lib.hid (show g7 ≠ g9 from by have := hW7.lt; omega)
  have HNhP8 := Lib.hid (show g8 ≠ g9 from by have := hP8.lt; omega)
  have HNb := Lib.hid (show w.heap.size ≤ g9 from by have := hb0.size; omega)
  replace hA := (hA.below hb).grown hgr (fun hh => by injection hh with hh; have := hA.lt; omega)
  replace hB := (hB.below hb).grown hgr (fun hh => by injection hh with hh; have := hB.lt; omega)
  replace hZ := (hZ.below hb).grown hgr (fun hh => by injection hh with hh; have := hZ.lt; omega)
  replace hC := (hC.below hb).grown hgr (fun hh => by injection hh with hh; have := hC.lt; omega)
  replace hW7 := (hW7.below hb).grown hgr (fun hh => by injection hh with hh; have := hW7.lt; omega)
  replace hP8 := (hP8.below hb).grown hgr (fun hh => by injection hh with hh; have := hP8.lt; omega)
  replace hb0 := (hb0.trans (hb.mono hb0.size)).grown hgr (Nat.le_trans hb0.size hb.size) (fun k hk => by injection hk with hk; have := hb0.size; omega)
  clear hgr hsz hb bk9 d9 d34
  refine wpList_nil ?_
  go_wp2
  refine wp_region_grow2 5 (fun k => (Nat.ble 35 k && Nat.ble k 39)) _ [] (fun j x' q => (rRoot_d10L Wn r0 q0).getD j (fun _ _ => True) x' q) (fun _ => false) (fun f => #[.agg (av A), .agg (av B), .pointer (some ⟨w.heap.size, 0, none⟩), .pointer (some ⟨w.heap.size + 1, 0, none⟩), .pointer (some ⟨w.heap.size + 1 + 1, 0, none⟩), .bool false, .pointer (some ⟨w.heap.size + 1 + 1 + 1, 0, none⟩), .pointer (some ⟨g7, 0, none⟩), .pointer (some ⟨g8, 0, none⟩), .pointer (some ⟨g9, 0, none⟩), undef, .agg (av (fun _ => 0)), .agg (av A), .agg (av (fun _ => 0)), .bool false, undef, .agg (av B), .agg (av (fun _ => 0)), .bool false, undef, f1 20, f1 21, f1 22, .agg (av Wn), .agg (av pq), .pointer (some ⟨g8, 0, none⟩), .int .u64 65517, .int .u64 65520, .pointer (some ⟨g8, 0, none⟩), f2 29, f2 30, f2 31, f2 32, f2 33, .agg (av r0), f 35, f 36, f 37, f 38, f 39, undef, undef, undef, undef, undef, undef, undef, undef, undef, undef, undef, undef, undef, undef, undef, undef, undef, undef, undef, undef, undef, undef, undef, undef]) (fun f => rfl) (by kernel_rfl) (by kernel_rfl) (by kernel_rfl) (by kernel_rfl) (by kernel_rfl) (rRoot_d10S _ _ _) (fun _ _ _ h => by cases h) ?_ ?_
  · refine steps2_cons ?_ ?_
    · as_aux_lemma =>
      intro f w1 hb hd Q hK
      clear hd
      have hK := Lib.hid hK
      refine ldN rfl rfl rfl (hR.below hb) ?_
      go_wp2
      exact hK.out _ _ rfl (.refl _ _) nof
    refine steps2_cons ?_ ?_
    · as_aux_lemma =>
      intro f w1 hb hd Q hK
      clear hd
      have hK := Lib.hid hK
      refine ldN rfl rfl rfl (hR.below hb) ?_
      go_wp2
      exact hK.out _ _ rfl (.refl _ _) nof
    refine steps2_cons ?_ ?_
    · as_aux_lemma =>
      intro f w1 hb hd Q hK
      have e35 : f 35 = .agg (av r0) := hd.1 rfl
      have e36 : f 36 = .agg (av r0) := hd.2.1 rfl
      clear hd
      simp only [e35, e36] at hK
      have hK := Lib.hid hK
      go_wp2_with fail
      refine (cq.out _).mono ?_
      rintro e w2 ⟨rfl, hb2⟩
      go_wp2
      exact hK.out _ _ rfl hb2 nof
    refine steps2_cons ?_ ?_
    · as_aux_lemma =>
      intro f w1 hb hd Q hK
      clear hd
      have hK := Lib.hid hK
      refine ldN rfl rfl rfl (hW7.below hb) ?_
      go_wp2
      exact hK.out _ _ rfl (.refl _ _) nof
    refine steps2_cons ?_ ?_
    · as_aux_lemma =>
      intro f w1 hb hd Q hK
      have e37 : f 37 = .agg (av q0) := hd.1 rfl
      have e38 : f 38 = .agg (av Wn) := hd.2.1 rfl
      clear hd
      simp only [e37, e38] at hK
      have hK := Lib.hid hK
      have hq := e1.out
      go_wp2
      exact hK.out _ _ rfl (.refl _ _) nof
    trivial
  intro f3 y3 hb hf hne
  refine wpList_nil ?_
  have d39 : f3 39 = .bool true := hf 4 _ _ (by decide) rfl rfl
  clear hf hne
  replace hA := hA.below hb
  replace hB := hB.below hb
  replace hZ := hZ.below hb
  replace hC := hC.below hb
  replace hW7 := hW7.below hb
  replace hP8 := hP8.below hb
  replace hR := hR.below hb
  replace hb0 := hb0.trans (hb.mono hb0.size)
  clear hb
  simp only [d39]
  clear d39
  go_wp2_with fail
  refine (hPc.out _).mono ?_
  rintro e1 wq ⟨rfl, hbx⟩
  replace hA := hA.below hbx
  replace hB := hB.below hbx
  replace hZ := hZ.below hbx
  replace hC := hC.below hbx
  replace hW7 := hW7.below hbx
  replace hP8 := hP8.below hbx
  replace hR := hR.below hbx
  replace hb0 := hb0.trans (hbx.mono hb0.size)
  clear hbx
  have hAlt := hA.lt
  have hBlt := hB.lt
  have hZlt := hZ.lt
  have hClt := hC.lt
  have hW7lt := hW7.lt
  have hP8lt := hP8.lt
  have hRlt := hR.lt
  go_wp2_with (refine stN (old := fun _ => 0) rfl rfl rfl (f := pq) rfl (Blk.new _ _ _) ?_; intro wq1 hP10 hgr hsz; replace hA := (hA.alloc _).grown hgr (fun hh => by injection hh with hh; omega); replace hB := (hB.alloc _).grown hgr (fun hh => by injection hh with hh; omega); replace hZ := (hZ.alloc _).grown hgr (fun hh => by injection hh with hh; omega); replace hC := (hC.alloc _).grown hgr (fun hh => by injection hh with hh; omega); replace hW7 := (hW7.alloc _).grown hgr (fun hh => by injection hh with hh; omega); replace hP8 := (hP8.alloc _).grown hgr (fun hh => by injection hh with hh; omega); replace hR := (hR.alloc _).grown hgr (fun hh => by injection hh with hh; omega); replace hb0 := (hb0.alloc hb0.size _).grown hgr (Nat.le_trans hb0.size (by simp)) (fun k hk => by injection hk with hk; have := hb0.size; omega); clear hgr hsz; have c0 := hP10.cell 0; rw [av_get _ _ (by decide), hp0.out] at c0; have hfr := fun j => hP10.frozen j)
  refine at_world (fun wq2 hW => ?_)
  replace hA := hA.far (p := ⟨wq.heap.size, 0, none⟩) (by show _ ≠ wq.heap.size; omega) (.int .u64 65516)
  rw [← hW] at hA
  replace hB := hB.far (p := ⟨wq.heap.size, 0, none⟩) (by show _ ≠ wq.heap.size; omega) (.int .u64 65516)
  rw [← hW] at hB
  replace hZ := hZ.far (p := ⟨wq.heap.size, 0, none⟩) (by show _ ≠ wq.heap.size; omega) (.int .u64 65516)
  rw [← hW] at hZ
  replace hC := hC.far (p := ⟨wq.heap.size, 0, none⟩) (by show _ ≠ wq.heap.size; omega) (.int .u64 65516)
  rw [← hW] at hC
  replace hW7 := hW7.far (p := ⟨wq.heap.size, 0, none⟩) (by show _ ≠ wq.heap.size; omega) (.int .u64 65516)
  rw [← hW] at hW7
  replace hP8 := hP8.far (p := ⟨wq.heap.size, 0, none⟩) (by show _ ≠ wq.heap.size; omega) (.int .u64 65516)
  rw [← hW] at hP8
  replace hR := hR.far (p := ⟨wq.heap.size, 0, none⟩) (by show _ ≠ wq.heap.size; omega) (.int .u64 65516)
  rw [← hW] at hR
  replace hP10 := hP10.set_ 0 (.int .u64 65516)
  rw [av_set _ _ _ (by decide), ← hW] at hP10
  replace hb0 := hb0.setCell (p := ⟨wq.heap.size, 0, none⟩) (by show w.heap.size ≤ wq.heap.size; omega) (.int .u64 65516)
  rw [← hW] at hb0
  clear hW c0 hfr hAlt hBlt hZlt hClt hW7lt hP8lt hRlt
  generalize wq.heap.size = g10 at *
  refine wp_region_grow2 7 (fun k => (Nat.ble 45 k && Nat.ble k 51)) _ [] (fun j x' q => (rRoot_d13L pq r0 K2 F1 F2 kk r1).getD j (fun _ _ => True) x' q) (fun _ => false) (fun f => #[.agg (av A), .agg (av B), .pointer (some ⟨w.heap.size, 0, none⟩), .pointer (some ⟨w.heap.size + 1, 0, none⟩), .pointer (some ⟨w.heap.size + 1 + 1, 0, none⟩), .bool false, .pointer (some ⟨w.heap.size + 1 + 1 + 1, 0, none⟩), .pointer (some ⟨g7, 0, none⟩), .pointer (some ⟨g8, 0, none⟩), .pointer (some ⟨g9, 0, none⟩), .pointer (some ⟨g10, 0, none⟩), .agg (av (fun _ => 0)), .agg (av A), .agg (av (fun _ => 0)), .bool false, undef, .agg (av B), .agg (av (fun _ => 0)), .bool false, undef, f1 20, f1 21, f1 22, .agg (av Wn), .agg (av pq), .pointer (some ⟨g8, 0, none⟩), .int .u64 65517, .int .u64 65520, .pointer (some ⟨g8, 0, none⟩), f2 29, f2 30, f2 31, f2 32, f2 33, .agg (av r0), f3 35, f3 36, f3 37, f3 38, .bool true, .agg (av pq), .pointer (some ⟨g10, 0, none⟩), .int .u64 65517, .int .u64 65516, .pointer (some ⟨g10, 0, none⟩), f 45, f 46, f 47, f 48, f 49, f 50, f 51, undef, undef, undef, undef, undef, undef, undef, undef, undef, undef, undef, undef]) (fun f => rfl) (by kernel_rfl) (by kernel_rfl) (by kernel_rfl) (by kernel_rfl) (by kernel_rfl) (rRoot_d13S _ _ _ _ _ _ _) (fun _ _ _ h => by cases h) ?_ ?_
  · refine steps2_cons ?_ ?_
    · as_aux_lemma =>
      intro f w1 hb hd Q hK
      clear hd
      have hK := Lib.hid hK
      refine ldN rfl rfl rfl (hR.below hb) ?_
      go_wp2
      exact hK.out _ _ rfl (.refl _ _) nof
    refine steps2_cons ?_ ?_
    · as_aux_lemma =>
      intro f w1 hb hd Q hK
      clear hd
      have hK := Lib.hid hK
      go_wp2_with fail
      refine (cs2.out _).mono ?_
      rintro e w2 ⟨rfl, hb2⟩
      go_wp2
      exact hK.out _ _ rfl hb2 nof
    refine steps2_cons ?_ ?_
    · as_aux_lemma =>
      intro f w1 hb hd Q hK
      clear hd
      have hK := Lib.hid hK
      refine ldN rfl rfl rfl (hP10.below hb) ?_
      go_wp2
      exact hK.out _ _ rfl (.refl _ _) nof
    refine steps2_cons ?_ ?_
    · as_aux_lemma =>
      intro f w1 hb hd Q hK
      have e47 : f 47 = .agg (av (Dg.up pq 0 65516)) := hd.1 rfl
      clear hd
      simp only [e47] at hK
      have hK := Lib.hid hK
      go_wp2_with fail
      refine (g1.out _).mono ?_
      rintro e w2 ⟨rfl, hb2⟩
      go_wp2
      exact hK.out _ _ rfl hb2 nof
    refine steps2_cons ?_ ?_
    · as_aux_lemma =>
      intro f w1 hb hd Q hK
      have e48 : f 48 = .agg (av F1) := hd.1 rfl
      clear hd
      simp only [e48] at hK
      have hK := Lib.hid hK
      go_wp2_with fail
      refine (g2.out _).mono ?_
      rintro e w2 ⟨rfl, hb2⟩
      go_wp2
      exact hK.out _ _ rfl hb2 nof
    refine steps2_cons ?_ ?_
    · as_aux_lemma =>
      intro f w1 hb hd Q hK
      have e46 : f 46 = .agg (av K2) := hd.1 rfl
      have e49 : f 49 = .agg (av F2) := hd.2.1 rfl
      clear hd
      simp only [e46, e49] at hK
      have hK := Lib.hid hK
      go_wp2_with fail
      refine (ck.out _).mono ?_
      rintro e w2 ⟨rfl, hb2⟩
      go_wp2
      exact hK.out _ _ rfl hb2 nof
    refine steps2_cons ?_ ?_
    · as_aux_lemma =>
      intro f w1 hb hd Q hK
      have e45 : f 45 = .agg (av r0) := hd.1 rfl
      have e50 : f 50 = .agg (av kk) := hd.2.1 rfl
      clear hd
      simp only [e45, e50] at hK
      have hK := Lib.hid hK
      go_wp2_with fail
      refine (ct.out _).mono ?_
      rintro e w2 ⟨rfl, hb2⟩
      go_wp2
      exact hK.out _ _ rfl hb2 nof
    trivial
  intro f4 y4 hb hf hne
  have d51 : f4 51 = .agg (av r1) := hf 6 _ _ (by decide) rfl rfl
  clear hf hne
  replace hA := hA.below hb
  replace hB := hB.below hb
  replace hZ := hZ.below hb
  replace hC := hC.below hb
  replace hW7 := hW7.below hb
  replace hP8 := hP8.below hb
  replace hR := hR.below hb
  replace hP10 := hP10.below hb
  replace hb0 := hb0.trans (hb.mono hb0.size)
  clear hb
  simp only [d51]
  refine stN rfl rfl rfl rfl hR ?_
  intro v13 hR13 hgr hsz
  replace hA := hA.grown hgr (fun hh => HNhA.out (by injection hh))
  replace hB := hB.grown hgr (fun hh => HNhB.out (by injection hh))
  replace hZ := hZ.grown hgr (fun hh => HNhZ.out (by injection hh))
  replace hC := hC.grown hgr (fun hh => HNhC.out (by injection hh))
  replace hW7 := hW7.grown hgr (fun hh => HNhW7.out (by injection hh))
  replace hP8 := hP8.grown hgr (fun hh => HNhP8.out (by injection hh))
  replace hb0 := hb0.grown hgr hb0.size (fun k hk => by injection hk with hk; have := HNb.out; omega)
  clear hgr hsz d51 hR
  have hR := hR13
  clear hR13 hP10
  refine wpList_nil ?_
  go_wp2
  refine wp_region_grow2 5 (fun k => (Nat.ble 52 k && Nat.ble k 56)) _ [] (fun j x' q => (rRoot_d14L Wn r1 q1).getD j (fun _ _ => True) x' q) (fun _ => false) (fun f => #[.agg (av A), .agg (av B), .pointer (some ⟨w.heap.size, 0, none⟩), .pointer (some ⟨w.heap.size + 1, 0, none⟩), .pointer (some ⟨w.heap.size + 1 + 1, 0, none⟩), .bool false, .pointer (some ⟨w.heap.size + 1 + 1 + 1, 0, none⟩), .pointer (some ⟨g7, 0, none⟩), .pointer (some ⟨g8, 0, none⟩), .pointer (some ⟨g9, 0, none⟩), .pointer (some ⟨g10, 0, none⟩), .agg (av (fun _ => 0)), .agg (av A), .agg (av (fun _ => 0)), .bool false, undef, .agg (av B), .agg (av (fun _ => 0)), .bool false, undef, f1 20, f1 21, f1 22, .agg (av Wn), .agg (av pq), .pointer (some ⟨g8, 0, none⟩), .int .u64 65517, .int .u64 65520, .pointer (some ⟨g8, 0, none⟩), f2 29, f2 30, f2 31, f2 32, f2 33, .agg (av r0), f3 35, f3 36, f3 37, f3 38, .bool true, .agg (av pq), .pointer (some ⟨g10, 0, none⟩), .int .u64 65517, .int .u64 65516, .pointer (some ⟨g10, 0, none⟩), f4 45, f4 46, f4 47, f4 48, f4 49, f4 50, .agg (av r1), f 52, f 53, f 54, f 55, f 56, undef, undef, undef, undef, undef, undef, undef]) (fun f => rfl) (by kernel_rfl) (by kernel_rfl) (by kernel_rfl) (by kernel_rfl) (by kernel_rfl) (rRoot_d14S _ _ _) (fun _ _ _ h => by cases h) ?_ ?_
  · refine steps2_cons ?_ ?_
    · as_aux_lemma =>
      intro f w1 hb hd Q hK
      clear hd
      have hK := Lib.hid hK
      refine ldN rfl rfl rfl (hR.below hb) ?_
      go_wp2
      exact hK.out _ _ rfl (.refl _ _) nof
    refine steps2_cons ?_ ?_
    · as_aux_lemma =>
      intro f w1 hb hd Q hK
      clear hd
      have hK := Lib.hid hK
      refine ldN rfl rfl rfl (hR.below hb) ?_
      go_wp2
      exact hK.out _ _ rfl (.refl _ _) nof
    refine steps2_cons ?_ ?_
    · as_aux_lemma =>
      intro f w1 hb hd Q hK
      have e52 : f 52 = .agg (av r1) := hd.1 rfl
      have e53 : f 53 = .agg (av r1) := hd.2.1 rfl
      clear hd
      simp only [e52, e53] at hK
      have hK := Lib.hid hK
      go_wp2_with fail
      refine (cq1.out _).mono ?_
      rintro e w2 ⟨rfl, hb2⟩
      go_wp2
      exact hK.out _ _ rfl hb2 nof
    refine steps2_cons ?_ ?_
    · as_aux_lemma =>
      intro f w1 hb hd Q hK
      clear hd
      have hK := Lib.hid hK
      refine ldN rfl rfl rfl (hW7.below hb) ?_
      go_wp2
      exact hK.out _ _ rfl (.refl _ _) nof
    refine steps2_cons ?_ ?_
    · as_aux_lemma =>
      intro f w1 hb hd Q hK
      have e54 : f 54 = .agg (av q1) := hd.1 rfl
      have e55 : f 55 = .agg (av Wn) := hd.2.1 rfl
      clear hd
      simp only [e54, e55] at hK
      have hK := Lib.hid hK
      have hq := e2.out
      go_wp2
      exact hK.out _ _ rfl (.refl _ _) nof
    trivial
  intro f5 y5 hb hf hne
  refine wpList_nil ?_
  have d56 : f5 56 = .bool false := hf 4 _ _ (by decide) rfl rfl
  clear hf hne
  replace hA := hA.below hb
  replace hB := hB.below hb
  replace hZ := hZ.below hb
  replace hC := hC.below hb
  replace hW7 := hW7.below hb
  replace hP8 := hP8.below hb
  replace hR := hR.below hb
  replace hb0 := hb0.trans (hb.mono hb0.size)
  clear hb
  simp only [d56]
  clear d56
  go_wp2_with (refine ldN rfl rfl rfl hR ?_)
  refine (cod.out _).mono ?_
  rintro e1 wo ⟨rfl, hbx⟩
  replace hA := hA.below hbx
  replace hB := hB.below hbx
  replace hZ := hZ.below hbx
  replace hC := hC.below hbx
  replace hW7 := hW7.below hbx
  replace hP8 := hP8.below hbx
  replace hR := hR.below hbx
  replace hb0 := hb0.trans (hbx.mono hb0.size)
  clear hbx
  cases od
  · go_wp2_with (first | (refine ldN rfl rfl rfl hR ?_) | (refine ldN rfl rfl rfl hC ?_) | (refine stN rfl rfl rfl rfl hZ ?_; intro W9 hnew hgr9 hsz9))
    exact retN2 rfl rfl hnew rfl rfl ⟨rfl, hb0.grown hgr9 hb0.size (fun k h => by injection h; omega)⟩
  have csm := Lib.hid (csn.out rfl)
  clear csn
  go_wp2_with (first | (refine ldN rfl rfl rfl hR ?_) | (refine ldN rfl rfl rfl hC ?_))
  refine (csm.out _).mono ?_
  rintro e1 wn ⟨rfl, hbx⟩
  replace hA := hA.below hbx
  replace hB := hB.below hbx
  replace hZ := hZ.below hbx
  replace hC := hC.below hbx
  replace hW7 := hW7.below hbx
  replace hP8 := hP8.below hbx
  replace hR := hR.below hbx
  replace hb0 := hb0.trans (hbx.mono hb0.size)
  clear hbx
  go_wp2_with (first | (refine stN rfl rfl rfl (f := rn) rfl hR ?_; intro W8 hR8 hgr hsz; replace hZ := hZ.grown hgr (fun hh => HNhZ.out (by injection hh)); replace hb0 := hb0.grown hgr hb0.size (fun k hk => by injection hk with hk; have := HNb.out; omega); clear hgr hsz) | (refine ldN rfl rfl rfl hR8 ?_) | (refine stN rfl rfl rfl rfl hZ ?_; intro W9 hnew hgr9 hsz9))
  exact retN2 rfl rfl hnew rfl rfl ⟨rfl, hb0.grown hgr9 hb0.size (fun k h => by injection h; omega)⟩
end Go.Proofs.YtpaldgajkhmhbaaDoor
