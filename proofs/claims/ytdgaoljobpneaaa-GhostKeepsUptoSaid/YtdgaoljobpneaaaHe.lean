/- The walks of ghost's ownRecord, ownRoot. -/
import Derived.Test.YtdgaoljobpneaaaHd
import Derived.Test.YtdgaoljobpneaaaRn
namespace Go.Proofs.Ytdgaoljobpneaaa
open Go.RowKit
/-- a slice whose row is of one's own -/
def OwS (B : Nat) (e : TypeId) (size n : Nat) (xs : List Value) : Value → World → Prop := fun v w => ∃ p c, v = .slice p n c ∧ w.ownsRow B e size (.slice p n c) n xs
theorem sta_ows (B : Nat) (e : TypeId) (size n : Nat) (xs : List Value) : Sta (OwS B e size n xs) := fun _ _ _ ⟨p, c, h1, h2⟩ hb => ⟨p, c, h1, below_kept h2 hb⟩
theorem own_range {w : World} {B : Nat} {e : TypeId} {size : Nat} {p : Option Addr} {m c n g : Nat} {xs : List Value} (h : w.ownsRow B e size (.slice p m c) n xs) (hg : obk (.slice p m c) = some g) : B ≤ g ∧ g < w.heap.size := by
  cases p with
  | none => cases hg
  | some a => exact own_ob h g (by have : a.block = g := Option.some.inj hg; simp [ob, this])
theorem own_ge {w : World} {B : Nat} {e : TypeId} {size : Nat} {p : Option Addr} {m c n g : Nat} {xs : List Value} (h : w.ownsRow B e size (.slice p m c) n xs) (hg : obk (.slice p m c) = some g) : B ≤ g := (own_range h hg).1
theorem ows_obk {B : Nat} {e : TypeId} {size n : Nat} {xs : List Value} {v : Value} {w : World} {g : Nat} (h : OwS B e size n xs v w) (hg : obk v = some g) : g < w.heap.size := by
  obtain ⟨p, c, rfl, h⟩ := h
  exact (own_range h hg).2
theorem new_obk {B0 : Nat} {t : TypeId} {cs : Array Value} {v : Value} {w : World} {g : Nat} (h : NewB B0 t cs v w) (e : obk v = some g) : g < w.heap.size := by
  obtain ⟨g', rfl, _, hb⟩ := h
  obtain rfl : g' = g := Option.some.inj e
  exact hb.lt
theorem ob_ne {p q : Option Addr} {m c n d : Nat} (h : ∀ g, obk (.slice p m c) = some g → obk (.slice q n d) ≠ some g) : ∀ g, g ∈ ob p → g ∉ ob q := by
  intro g h1 h2
  cases p with
  | none => simp [ob] at h1
  | some a =>
    cases q with
    | none => simp [ob] at h2
    | some b =>
      have e1 : g = a.block := by simpa [ob] using h1
      have e2 : g = b.block := by simpa [ob] using h2
      exact h g (congrArg some e1.symm) (congrArg some e2.symm)
theorem ob_nodup (p : Option Addr) : (ob p).Nodup := by cases p <;> simp [ob]
theorem ob3_nodup {p q r : Option Addr} (h1 : ∀ g, g ∈ ob p → g ∉ ob q) (h2 : ∀ g, g ∈ ob p → g ∉ ob r) (h3 : ∀ g, g ∈ ob q → g ∉ ob r) : (ob p ++ ob q ++ ob r).Nodup := by
  rw [List.nodup_append, List.nodup_append]
  refine ⟨⟨ob_nodup p, ob_nodup q, fun a ha b hb e => h1 a ha (e ▸ hb)⟩, ob_nodup r, fun a ha b hb e => ?_⟩
  rcases List.mem_append.1 ha with ha | ha
  · exact h2 a ha (e ▸ hb)
  · exact h3 a ha (e ▸ hb)
theorem ob2_nodup {p q : Option Addr} (h1 : ∀ g, g ∈ ob p → g ∉ ob q) : (ob p ++ ob q).Nodup := by
  rw [List.nodup_append]
  exact ⟨ob_nodup p, ob_nodup q, fun a ha b hb e => h1 a ha (e ▸ hb)⟩
theorem own_grown {w w' : World} {B : Nat} {e : TypeId} {size : Nat} {v : Value} {n : Nat} {xs : List Value} {row : Option Nat} (h : w.ownsRow B e size v n xs) (hg : w.grownBy w' row) (hr : ∀ g, row = some g → g < B) : w'.ownsRow B e size v n xs := by
  refine ⟨h.1, h.2.imp id ?_⟩
  rintro ⟨g, cap, cur, rfl, h1, h2, h3⟩
  exact ⟨g, cap, cur, rfl, h1, (hg.block g (Array.getElem?_eq_some_iff.1 h2).1 (fun e => by have := hr g e.symm; omega)).trans h2, h3⟩
theorem size_setCell (w : World) (a : Addr) (u : Value) : (w.setCell a u).heap.size = w.heap.size := by simp [World.setCell]
theorem root_size : (Try.prog.info? 27).map (·.size) = some 5 := by kernel_rfl
theorem root_under : ∃ d, Try.prog.underlying 27 = some d ∧ (match d with | .struct _ | .array _ _ => true | _ => false) = true := by
  cases h : Try.prog.underlying 27 with
  | none => exact absurd (show (Try.prog.underlying 27).isSome = true by kernel_rfl) (by rw [h]; decide)
  | some d => exact ⟨d, rfl, by have := show (match Try.prog.underlying 27 with | some (.struct _) | some (.array _ _) => true | _ => false) = true by kernel_rfl
                                rw [h] at this
                                cases d <;> simp_all⟩
theorem retRoot {fn : Func} {p : Tmp} {g : Nat} {tmps : Array Value} {D : List Deferred} {w : World} {R : Ending → World → Prop} {x0 x1 x2 x3 x4 : Value} (h : fn.results = #[.cell p 27]) (hp : tmps.getD p undef = .pointer (some ⟨g, 0, none⟩)) (hg : Blk w g 27 #[x0, x1, x2, x3, x4]) (hD : D = []) (hR : R (.returned (.agg #[x0, x1, x2, x3, x4])) w) : bodyPost Try.prog fn R .ret ⟨tmps, D⟩ w := by
  obtain ⟨d, hd, hs⟩ := root_under
  exact bodyPost_ret (results_cell_row h tmps w g 27 #[x0, x1, x2, x3, x4] (0, 0) d hp hg hd (by revert hs; cases d <;> exact fun h => h) root_size) hD hR
theorem stRoot {ops : Array Oper} {rest : List Oper} {o : Oper} {a : Act} {w : World} {Q : Exit → Act → World → Prop} (hgd : o.guard = none) {x y : Operand} (ho : o.op = .store 27 x y) {g : Nat} {x0 x1 x2 x3 x4 : Value} {old : Array Value} (hx : a.eval x = .pointer (some ⟨g, 0, none⟩)) (hy : a.eval y = .agg #[x0, x1, x2, x3, x4]) (hg : Blk w g 27 old) (hs : old.size = 5) (h1 : (#[x0, x1, x2, x3, x4] : Array Value).all (·.oneCell') = true)
    (h : ∀ w', Blk w' g 27 #[x0, x1, x2, x3, x4] → w.grownBy w' (some g) → w'.heap.size = w.heap.size → wpList Try.prog ops Q rest (a.put o.dst undef) w') : wpList Try.prog ops Q (o :: rest) a w :=
  wpList_store_blk hgd 27 x y ho g 27 old _ hx hy hg hs root_size h1 h
/-- a new record of one's own -/
def PostRO (r : RecD) (w : World) (e : Ending) (w' : World) : Prop := ∃ v bl, e = .returned v ∧ RecO w.heap.size w' v r bl ∧ bl.Nodup ∧ Below w.heap.size w w'
def PostTO (r : RootD) (w : World) (e : Ending) (w' : World) : Prop := ∃ v bl, e = .returned v ∧ RootO w.heap.size w' v r bl ∧ bl.Nodup ∧ Below w.heap.size w w'
def owReL (n : Nat) (ds vs ss : List Int) (p1 : Option Addr) (c1 : Nat) (p2 : Option Addr) (c2 : Nat) (p3 : Option Addr) (c3 : Nat) (H B0 : Nat) : List (Value → World → Prop) := [
  Eq1 (.pointer (some ⟨H, 3, none⟩)),
  Eq1 (.slice p1 n c1),
  OwS B0 86 2 (n) (dotL ds),
  Eq1 (.pointer (some ⟨H, 5, none⟩)),
  Eq1 (.slice p2 vs.length c2),
  OwS B0 5 1 (vs.length) (bL vs),
  Eq1 (.pointer (some ⟨H, 6, none⟩)),
  Eq1 (.slice p3 ss.length c3),
  OwS B0 5 1 (ss.length) (bL ss),
  Eq1 (.pointer (some ⟨H, 3, none⟩))]
theorem owReS (n : Nat) (ds vs ss : List Int) (p1 : Option Addr) (c1 : Nat) (p2 : Option Addr) (c2 : Nat) (p3 : Option Addr) (c3 : Nat) (H B0 : Nat) : ∀ j x' q q', (owReL n ds vs ss p1 c1 p2 c2 p3 c3 H B0).getD j (fun _ _ => True) x' q → Below q.heap.size q q' → (owReL n ds vs ss p1 c1 p2 c2 p3 c3 H B0).getD j (fun _ _ => True) x' q' := by
  refine sta_all _ ?_
  simp only [owReL, List.mem_cons, forall_eq_or_imp, List.not_mem_nil, false_implies, implies_true, and_true]
  exact ⟨sta_eq _, sta_eq _, sta_ows _ _ _ _ _, sta_eq _, sta_eq _, sta_ows _ _ _ _ _, sta_eq _, sta_eq _, sta_ows _ _ _ _ _, sta_eq _⟩
theorem owReO (n : Nat) (ds vs ss : List Int) (p1 : Option Addr) (c1 : Nat) (p2 : Option Addr) (c2 : Nat) (p3 : Option Addr) (c3 : Nat) (H B0 : Nat) : ∀ j x' q, (fun j => j == 2 || j == 5 || j == 8) j = true → (owReL n ds vs ss p1 c1 p2 c2 p3 c3 H B0).getD j (fun _ _ => True) x' q → ∀ g, obk x' = some g → g < q.heap.size := by
  intro j x' q hj hv g e
  have hj' : j = 2 ∨ j = 5 ∨ j = 8 := by simpa [or_assoc] using hj
  rcases hj' with rfl | rfl | rfl
  · exact ows_obk hv e
  · exact ows_obk hv e
  · exact ows_obk hv e
set_option maxRecDepth 20000 in
set_option maxHeartbeats 8000000 in
theorem ownRecord_c (r : RecD) (p1 : Option Addr) (c1 : Nat) (p2 : Option Addr) (c2 : Nat) (p3 : Option Addr) (c3 : Nat) (hok : r.ok) (w : World) (h1 : DotsL w p1 r.n r.ds) (h2 : BytesL w p2 r.vs) (h3 : BytesL w p3 r.ss) :
    Calls Try.prog 42 #[recV r p1 c1 p2 c2 p3 c3] w (PostRO r w) := by
  obtain ⟨k, cl, sq, n, ds, gone, vs, ss⟩ := r
  obtain ⟨hn, hv, hs, -, -⟩ := hok
  dsimp only at h1 h2 h3 hn hv hs
  unfold recV
  dsimp only
  go_enter Try.func42, Try.ntmps42
  go_wp2
  refine at_world (fun W0 hW => ?_)
  have hG : Blk W0 w.heap.size 25 #[.string k, .int .i64 cl, .int .i64 sq, .slice p1 n c1, .bool gone, .slice p2 vs.length c2, .slice p3 ss.length c3] := by rw [hW]; exact (Blk.new _ _ _).alloc _
  have hR : Blk W0 (w.heap.size + 1) 25 #[.string ⟨#[]⟩, .int .i64 0, .int .i64 0, .slice none 0 0, .bool false, .slice none 0 0, .slice none 0 0] := by rw [hW]; exact blk_at (by simp) (Blk.new _ _ _)
  have hbw : Below w.heap.size w W0 := by rw [hW]; go_grown
  have hws : w.heap.size + 2 = W0.heap.size := by rw [hW]; simp
  clear hW
  have hc1 := fun w1 (hb : Below W0.heap.size W0 w1) => cloneD_c p1 n c1 ds (by omega) w1 ((h1.below hbw).below hb)
  have hc2 := fun w1 (hb : Below W0.heap.size W0 w1) => cloneB_c p2 vs.length c2 vs rfl (by omega) w1 ((h2.below hbw).below hb)
  have hc3 := fun w1 (hb : Below W0.heap.size W0 w1) => cloneB_c p3 ss.length c3 ss rfl (by omega) w1 ((h3.below hbw).below hb)
  replace hc1 := Lib.hid hc1
  replace hc2 := Lib.hid hc2
  replace hc3 := Lib.hid hc3
  clear h1 h2 h3 hn hv hs
  refine wp_region_grow5 10 (fun k => (Nat.ble 3 k && Nat.ble k 12)) _ [] (fun a b => Below a.heap.size a b) (Below.refl _ _).drew below_tr (fun j x' q => (owReL n ds vs ss p1 c1 p2 c2 p3 c3 w.heap.size W0.heap.size).getD j (fun _ _ => True) x' q) (fun j => j == 2 || j == 5 || j == 8) (fun f => #[.agg #[.string k, .int .i64 cl, .int .i64 sq, .slice p1 n c1, .bool gone, .slice p2 vs.length c2, .slice p3 ss.length c3], .pointer (some ⟨w.heap.size, 0, none⟩), .pointer (some ⟨(w.heap.size + 1), 0, none⟩), f 3, f 4, f 5, f 6, f 7, f 8, f 9, f 10, f 11, f 12, undef, undef, undef]) (fun f => rfl) (by kernel_rfl) (by kernel_rfl) (by kernel_rfl) (by kernel_rfl) (by kernel_rfl) (owReS _ _ _ _ _ _ _ _ _ _ _ _) (owReO _ _ _ _ _ _ _ _ _ _ _ _) ?_ ?_
  · refine steps5_cons ?_ ?_
    · intro f w1 hb hd Q hK
      clear hd
      have hK := Lib.hid hK
      go_wp2
      exact hK.out _ _ rfl (Below.refl _ _) (fun h => by cases h)
    refine steps5_cons ?_ ?_
    · intro f w1 hb hd Q hK
      have e3 : f 3 = .pointer (some ⟨w.heap.size, 3, none⟩) := hd.1 rfl
      clear hd
      simp only [e3] at hK
      have hK := Lib.hid hK
      have c0 := (hG.below hb).cell 3
      simp only [List.getElem?_toArray, List.getElem?_cons_zero, List.getElem?_cons_succ] at c0
      go_wp2
      exact hK.out _ _ rfl (Below.refl _ _) (fun h => by cases h)
    refine steps5_cons ?_ ?_
    · intro f w1 hb hd Q hK
      have e4 : f 4 = .slice p1 n c1 := hd.1 rfl
      clear hd
      simp only [e4] at hK
      have hK := Lib.hid hK
      go_wp2_with fail
      refine (hc1.out _ hb).mono ?_
      rintro e w2 ⟨p, c, rfl, ho, hb2⟩
      replace ho := Lib.hid ho
      go_wp2
      exact hK.out _ _ ⟨_, _, rfl, own_mono ho.out hb.size⟩ hb2 (fun _ g e => own_ge ho.out e)
    refine steps5_cons ?_ ?_
    · intro f w1 hb hd Q hK
      clear hd
      have hK := Lib.hid hK
      go_wp2
      exact hK.out _ _ rfl (Below.refl _ _) (fun h => by cases h)
    refine steps5_cons ?_ ?_
    · intro f w1 hb hd Q hK
      have e6 : f 6 = .pointer (some ⟨w.heap.size, 5, none⟩) := hd.1 rfl
      clear hd
      simp only [e6] at hK
      have hK := Lib.hid hK
      have c0 := (hG.below hb).cell 5
      simp only [List.getElem?_toArray, List.getElem?_cons_zero, List.getElem?_cons_succ] at c0
      go_wp2
      exact hK.out _ _ rfl (Below.refl _ _) (fun h => by cases h)
    refine steps5_cons ?_ ?_
    · intro f w1 hb hd Q hK
      have e7 : f 7 = .slice p2 vs.length c2 := hd.1 rfl
      clear hd
      simp only [e7] at hK
      have hK := Lib.hid hK
      go_wp2_with fail
      refine (hc2.out _ hb).mono ?_
      rintro e w2 ⟨p, c, rfl, ho, hb2⟩
      replace ho := Lib.hid ho
      go_wp2
      exact hK.out _ _ ⟨_, _, rfl, own_mono ho.out hb.size⟩ hb2 (fun _ g e => own_ge ho.out e)
    refine steps5_cons ?_ ?_
    · intro f w1 hb hd Q hK
      clear hd
      have hK := Lib.hid hK
      go_wp2
      exact hK.out _ _ rfl (Below.refl _ _) (fun h => by cases h)
    refine steps5_cons ?_ ?_
    · intro f w1 hb hd Q hK
      have e9 : f 9 = .pointer (some ⟨w.heap.size, 6, none⟩) := hd.1 rfl
      clear hd
      simp only [e9] at hK
      have hK := Lib.hid hK
      have c0 := (hG.below hb).cell 6
      simp only [List.getElem?_toArray, List.getElem?_cons_zero, List.getElem?_cons_succ] at c0
      go_wp2
      exact hK.out _ _ rfl (Below.refl _ _) (fun h => by cases h)
    refine steps5_cons ?_ ?_
    · intro f w1 hb hd Q hK
      have e10 : f 10 = .slice p3 ss.length c3 := hd.1 rfl
      clear hd
      simp only [e10] at hK
      have hK := Lib.hid hK
      go_wp2_with fail
      refine (hc3.out _ hb).mono ?_
      rintro e w2 ⟨p, c, rfl, ho, hb2⟩
      replace ho := Lib.hid ho
      go_wp2
      exact hK.out _ _ ⟨_, _, rfl, own_mono ho.out hb.size⟩ hb2 (fun _ g e => own_ge ho.out e)
    refine steps5_cons ?_ ?_
    · intro f w1 hb hd Q hK
      clear hd
      have hK := Lib.hid hK
      go_wp2
      exact hK.out _ _ rfl (Below.refl _ _) (fun h => by cases h)
    trivial
  · intro f w1 hb hf hne
    clear hc1 hc2 hc3
    obtain ⟨q0, d0, e0, o0⟩ : OwS W0.heap.size 86 2 (n) (dotL ds) (f 5) w1 := hf 2 _ _ (by decide) rfl rfl
    obtain ⟨q1, d1, e1, o1⟩ : OwS W0.heap.size 5 1 (vs.length) (bL vs) (f 8) w1 := hf 5 _ _ (by decide) rfl rfl
    obtain ⟨q2, d2, e2, o2⟩ : OwS W0.heap.size 5 1 (ss.length) (bL ss) (f 11) w1 := hf 8 _ _ (by decide) rfl rfl
    have n01 := hne 2 5 _ _ 5 8 (by decide) (by decide) (by decide) rfl rfl rfl rfl rfl rfl
    rw [e0, e1] at n01
    replace n01 := Lib.hid n01
    have n02 := hne 2 8 _ _ 5 11 (by decide) (by decide) (by decide) rfl rfl rfl rfl rfl rfl
    rw [e0, e2] at n02
    replace n02 := Lib.hid n02
    have n12 := hne 5 8 _ _ 8 11 (by decide) (by decide) (by decide) rfl rfl rfl rfl rfl rfl
    rw [e1, e2] at n12
    replace n12 := Lib.hid n12
    simp only [e0, e1, e2]
    have hfa : f 12 = .pointer (some ⟨w.heap.size, 3, none⟩) := hf 9 _ _ (by decide) rfl rfl
    simp only [hfa]
    clear hf hne
    replace hG := hG.below hb
    replace hR := hR.below hb
    have hb0 := hbw.trans (hb.mono hbw.size)
    have hne1 : (some (w.heap.size + 1) : Option Nat) ≠ some w.heap.size := fun h => by injection h; omega
    have s0 := grown_setCells w.heap.size [.slice q0 n d0] 3 w1
    have s1 := grown_setCells w.heap.size [.slice q1 vs.length d1] 5 (w1.setCells w.heap.size 3 [.slice q0 n d0])
    have s2 := grown_setCells w.heap.size [.slice q2 ss.length d2] 6 ((w1.setCells w.heap.size 3 [.slice q0 n d0]).setCells w.heap.size 5 [.slice q1 vs.length d1])
    have hR3 := (((hR.grown s0 hne1).grown s1 hne1).grown s2 hne1)
    replace o0 := own_grown (own_grown (own_grown (o0) s0 (fun g h => by injection h; omega)) s1 (fun g h => by injection h; omega)) s2 (fun g h => by injection h; omega)
    replace o0 := Lib.hid o0
    replace o1 := own_grown (own_grown (own_grown (o1) s0 (fun g h => by injection h; omega)) s1 (fun g h => by injection h; omega)) s2 (fun g h => by injection h; omega)
    replace o1 := Lib.hid o1
    replace o2 := own_grown (own_grown (own_grown (o2) s0 (fun g h => by injection h; omega)) s1 (fun g h => by injection h; omega)) s2 (fun g h => by injection h; omega)
    replace o2 := Lib.hid o2
    replace hb0 := (((hb0.grown s0 (by have := hb.size; have := hbw.size; first | omega | (simp only [World.setCells, size_setCell]; omega)) (fun g h => by injection h; omega)).grown s1 (by have := hb.size; have := hbw.size; first | omega | (simp only [World.setCells, size_setCell]; omega)) (fun g h => by injection h; omega)).grown s2 (by have := hb.size; have := hbw.size; first | omega | (simp only [World.setCells, size_setCell]; omega)) (fun g h => by injection h; omega))
    obtain ⟨y0, y1, y2, y3, y4, y5, y6⟩ := blk7 hG
    have fA := fun j => hG.frozen j
    clear s0 s1 s2 hR hne1
    have hws4 : w.heap.size + 2 ≤ ((((w1.setCells w.heap.size 3 [.slice q0 n d0]).setCells w.heap.size 5 [.slice q1 vs.length d1]).setCells w.heap.size 6 [.slice q2 ss.length d2])).heap.size := by have := hb.size; simp only [World.setCells, size_setCell]; omega
    replace hb0 := Lib.hid hb0
    replace hws4 := Lib.hid hws4
    go_wp2_with (refine stRec rfl rfl rfl rfl hR3 rfl (by kernel_rfl) ?_; intro w4 hR4 hg4 hs4; replace hg4 := Lib.hid hg4; clear y0 y1 y2 y3 y4 y5 y6 fA)
    have hb4 := hb0.out.grown hg4.out (Nat.le_trans (by omega) hws4.out) (fun k h => by injection h with h; omega)
    replace o0 := Lib.hid (own_grown o0.out hg4.out (fun g h => by injection h; omega))
    replace o1 := Lib.hid (own_grown o1.out hg4.out (fun g h => by injection h; omega))
    replace o2 := Lib.hid (own_grown o2.out hg4.out (fun g h => by injection h; omega))
    exact retRec rfl rfl hR4 rfl ⟨_, ob q0 ++ ob q1 ++ ob q2, rfl, ⟨q0, d0, q1, d1, q2, d2, rfl, own_mono o0.out (by omega), own_mono o1.out (by omega), own_mono o2.out (by omega), rfl⟩, ob3_nodup (ob_ne n01.out) (ob_ne n02.out) (ob_ne n12.out), hb4⟩
def owRoL (vs ss : List Int) (p1 : Option Addr) (c1 : Nat) (p2 : Option Addr) (c2 : Nat) (H B0 : Nat) : List (Value → World → Prop) := [
  Eq1 (.pointer (some ⟨H, 3, none⟩)),
  Eq1 (.slice p1 vs.length c1),
  OwS B0 5 1 (vs.length) (bL vs),
  Eq1 (.pointer (some ⟨H, 4, none⟩)),
  Eq1 (.slice p2 ss.length c2),
  OwS B0 5 1 (ss.length) (bL ss),
  Eq1 (.pointer (some ⟨H, 3, none⟩))]
theorem owRoS (vs ss : List Int) (p1 : Option Addr) (c1 : Nat) (p2 : Option Addr) (c2 : Nat) (H B0 : Nat) : ∀ j x' q q', (owRoL vs ss p1 c1 p2 c2 H B0).getD j (fun _ _ => True) x' q → Below q.heap.size q q' → (owRoL vs ss p1 c1 p2 c2 H B0).getD j (fun _ _ => True) x' q' := by
  refine sta_all _ ?_
  simp only [owRoL, List.mem_cons, forall_eq_or_imp, List.not_mem_nil, false_implies, implies_true, and_true]
  exact ⟨sta_eq _, sta_eq _, sta_ows _ _ _ _ _, sta_eq _, sta_eq _, sta_ows _ _ _ _ _, sta_eq _⟩
theorem owRoO (vs ss : List Int) (p1 : Option Addr) (c1 : Nat) (p2 : Option Addr) (c2 : Nat) (H B0 : Nat) : ∀ j x' q, (fun j => j == 2 || j == 5) j = true → (owRoL vs ss p1 c1 p2 c2 H B0).getD j (fun _ _ => True) x' q → ∀ g, obk x' = some g → g < q.heap.size := by
  intro j x' q hj hv g e
  have hj' : j = 2 ∨ j = 5 := by simpa [or_assoc] using hj
  rcases hj' with rfl | rfl
  · exact ows_obk hv e
  · exact ows_obk hv e
set_option maxRecDepth 20000 in
set_option maxHeartbeats 8000000 in
theorem ownRoot_c (r : RootD) (p1 : Option Addr) (c1 : Nat) (p2 : Option Addr) (c2 : Nat) (hok : r.ok) (w : World) (h1 : BytesL w p1 r.sum) (h2 : BytesL w p2 r.sig) :
    Calls Try.prog 44 #[rootV r p1 c1 p2 c2] w (PostTO r w) := by
  obtain ⟨rr, rh, rq, vs, ss⟩ := r
  obtain ⟨hv, hs, -, -⟩ := hok
  dsimp only at h1 h2 hv hs
  unfold rootV
  dsimp only
  go_enter Try.func44, Try.ntmps44
  go_wp2
  refine at_world (fun W0 hW => ?_)
  have hG : Blk W0 w.heap.size 27 #[.int .i64 rr, .int .i64 rh, .int .i64 rq, .slice p1 vs.length c1, .slice p2 ss.length c2] := by rw [hW]; exact (Blk.new _ _ _).alloc _
  have hR : Blk W0 (w.heap.size + 1) 27 #[.int .i64 0, .int .i64 0, .int .i64 0, .slice none 0 0, .slice none 0 0] := by rw [hW]; exact blk_at (by simp) (Blk.new _ _ _)
  have hbw : Below w.heap.size w W0 := by rw [hW]; go_grown
  have hws : w.heap.size + 2 = W0.heap.size := by rw [hW]; simp
  clear hW
  have hc1 := fun w1 (hb : Below W0.heap.size W0 w1) => cloneB_c p1 vs.length c1 vs rfl (by omega) w1 ((h1.below hbw).below hb)
  have hc2 := fun w1 (hb : Below W0.heap.size W0 w1) => cloneB_c p2 ss.length c2 ss rfl (by omega) w1 ((h2.below hbw).below hb)
  replace hc1 := Lib.hid hc1
  replace hc2 := Lib.hid hc2
  clear h1 h2 hv hs
  refine wp_region_grow5 7 (fun k => (Nat.ble 3 k && Nat.ble k 9)) _ [] (fun a b => Below a.heap.size a b) (Below.refl _ _).drew below_tr (fun j x' q => (owRoL vs ss p1 c1 p2 c2 w.heap.size W0.heap.size).getD j (fun _ _ => True) x' q) (fun j => j == 2 || j == 5) (fun f => #[.agg #[.int .i64 rr, .int .i64 rh, .int .i64 rq, .slice p1 vs.length c1, .slice p2 ss.length c2], .pointer (some ⟨w.heap.size, 0, none⟩), .pointer (some ⟨(w.heap.size + 1), 0, none⟩), f 3, f 4, f 5, f 6, f 7, f 8, f 9, undef, undef]) (fun f => rfl) (by kernel_rfl) (by kernel_rfl) (by kernel_rfl) (by kernel_rfl) (by kernel_rfl) (owRoS _ _ _ _ _ _ _ _) (owRoO _ _ _ _ _ _ _ _) ?_ ?_
  · refine steps5_cons ?_ ?_
    · intro f w1 hb hd Q hK
      clear hd
      have hK := Lib.hid hK
      go_wp2
      exact hK.out _ _ rfl (Below.refl _ _) (fun h => by cases h)
    refine steps5_cons ?_ ?_
    · intro f w1 hb hd Q hK
      have e3 : f 3 = .pointer (some ⟨w.heap.size, 3, none⟩) := hd.1 rfl
      clear hd
      simp only [e3] at hK
      have hK := Lib.hid hK
      have c0 := (hG.below hb).cell 3
      simp only [List.getElem?_toArray, List.getElem?_cons_zero, List.getElem?_cons_succ] at c0
      go_wp2
      exact hK.out _ _ rfl (Below.refl _ _) (fun h => by cases h)
    refine steps5_cons ?_ ?_
    · intro f w1 hb hd Q hK
      have e4 : f 4 = .slice p1 vs.length c1 := hd.1 rfl
      clear hd
      simp only [e4] at hK
      have hK := Lib.hid hK
      go_wp2_with fail
      refine (hc1.out _ hb).mono ?_
      rintro e w2 ⟨p, c, rfl, ho, hb2⟩
      replace ho := Lib.hid ho
      go_wp2
      exact hK.out _ _ ⟨_, _, rfl, own_mono ho.out hb.size⟩ hb2 (fun _ g e => own_ge ho.out e)
    refine steps5_cons ?_ ?_
    · intro f w1 hb hd Q hK
      clear hd
      have hK := Lib.hid hK
      go_wp2
      exact hK.out _ _ rfl (Below.refl _ _) (fun h => by cases h)
    refine steps5_cons ?_ ?_
    · intro f w1 hb hd Q hK
      have e6 : f 6 = .pointer (some ⟨w.heap.size, 4, none⟩) := hd.1 rfl
      clear hd
      simp only [e6] at hK
      have hK := Lib.hid hK
      have c0 := (hG.below hb).cell 4
      simp only [List.getElem?_toArray, List.getElem?_cons_zero, List.getElem?_cons_succ] at c0
      go_wp2
      exact hK.out _ _ rfl (Below.refl _ _) (fun h => by cases h)
    refine steps5_cons ?_ ?_
    · intro f w1 hb hd Q hK
      have e7 : f 7 = .slice p2 ss.length c2 := hd.1 rfl
      clear hd
      simp only [e7] at hK
      have hK := Lib.hid hK
      go_wp2_with fail
      refine (hc2.out _ hb).mono ?_
      rintro e w2 ⟨p, c, rfl, ho, hb2⟩
      replace ho := Lib.hid ho
      go_wp2
      exact hK.out _ _ ⟨_, _, rfl, own_mono ho.out hb.size⟩ hb2 (fun _ g e => own_ge ho.out e)
    refine steps5_cons ?_ ?_
    · intro f w1 hb hd Q hK
      clear hd
      have hK := Lib.hid hK
      go_wp2
      exact hK.out _ _ rfl (Below.refl _ _) (fun h => by cases h)
    trivial
  · intro f w1 hb hf hne
    clear hc1 hc2
    obtain ⟨q0, d0, e0, o0⟩ : OwS W0.heap.size 5 1 (vs.length) (bL vs) (f 5) w1 := hf 2 _ _ (by decide) rfl rfl
    obtain ⟨q1, d1, e1, o1⟩ : OwS W0.heap.size 5 1 (ss.length) (bL ss) (f 8) w1 := hf 5 _ _ (by decide) rfl rfl
    have n01 := hne 2 5 _ _ 5 8 (by decide) (by decide) (by decide) rfl rfl rfl rfl rfl rfl
    rw [e0, e1] at n01
    replace n01 := Lib.hid n01
    simp only [e0, e1]
    have hfa : f 9 = .pointer (some ⟨w.heap.size, 3, none⟩) := hf 6 _ _ (by decide) rfl rfl
    simp only [hfa]
    clear hf hne
    replace hG := hG.below hb
    replace hR := hR.below hb
    have hb0 := hbw.trans (hb.mono hbw.size)
    have hne1 : (some (w.heap.size + 1) : Option Nat) ≠ some w.heap.size := fun h => by injection h; omega
    have s0 := grown_setCells w.heap.size [.slice q0 vs.length d0] 3 w1
    have s1 := grown_setCells w.heap.size [.slice q1 ss.length d1] 4 (w1.setCells w.heap.size 3 [.slice q0 vs.length d0])
    have hR3 := ((hR.grown s0 hne1).grown s1 hne1)
    replace o0 := own_grown (own_grown (o0) s0 (fun g h => by injection h; omega)) s1 (fun g h => by injection h; omega)
    replace o0 := Lib.hid o0
    replace o1 := own_grown (own_grown (o1) s0 (fun g h => by injection h; omega)) s1 (fun g h => by injection h; omega)
    replace o1 := Lib.hid o1
    replace hb0 := ((hb0.grown s0 (by have := hb.size; have := hbw.size; first | omega | (simp only [World.setCells, size_setCell]; omega)) (fun g h => by injection h; omega)).grown s1 (by have := hb.size; have := hbw.size; first | omega | (simp only [World.setCells, size_setCell]; omega)) (fun g h => by injection h; omega))
    obtain ⟨y0, y1, y2, y3, y4⟩ := blk5v hG
    have fA := fun j => hG.frozen j
    clear s0 s1 hR hne1
    have hws4 : w.heap.size + 2 ≤ (((w1.setCells w.heap.size 3 [.slice q0 vs.length d0]).setCells w.heap.size 4 [.slice q1 ss.length d1])).heap.size := by have := hb.size; simp only [World.setCells, size_setCell]; omega
    replace hb0 := Lib.hid hb0
    replace hws4 := Lib.hid hws4
    go_wp2_with (refine stRoot rfl rfl rfl rfl hR3 rfl (by kernel_rfl) ?_; intro w4 hR4 hg4 hs4; replace hg4 := Lib.hid hg4; clear y0 y1 y2 y3 y4 fA)
    have hb4 := hb0.out.grown hg4.out (Nat.le_trans (by omega) hws4.out) (fun k h => by injection h with h; omega)
    replace o0 := Lib.hid (own_grown o0.out hg4.out (fun g h => by injection h; omega))
    replace o1 := Lib.hid (own_grown o1.out hg4.out (fun g h => by injection h; omega))
    exact retRoot rfl rfl hR4 rfl ⟨_, ob q0 ++ ob q1, rfl, ⟨q0, d0, q1, d1, rfl, own_mono o0.out (by omega), own_mono o1.out (by omega), rfl⟩, ob2_nodup (ob_ne n01.out), hb4⟩
end Go.Proofs.Ytdgaoljobpneaaa
