/- The walk of VectorTells. -/
import Derived.Test.YtofgkfdfondajaaGreatKe2
import Derived.Test.YtofgkfdfondajaaGreatRh2
namespace Go.Proofs.YtofgkfdfondajaaGreat
open Go.RowKit
theorem lent_dots {w : World} {g n : Nat} {ds : List Int} (hl : ds.length = 2 * n) (h : DotsL w (some ⟨g, 0, none⟩) (n + 12) (ds ++ marksL 12)) : DotsL w (some ⟨g, 0, none⟩) n ds := by
  refine ⟨hl, fun _ => ?_⟩
  obtain ⟨g', o, e, h1, h2⟩ := h.2 (by omega)
  refine ⟨g', o, e, h1, fun j hj => ?_⟩
  rw [h2 j (by omega)]
  simp only [List.getD_eq_getElem?_getD]
  rw [List.getElem?_append_left (by omega)]
set_option maxRecDepth 20000 in
set_option maxHeartbeats 8000000 in
theorem vectorTells_c (p0 : Option Addr) (n0 c0 : Nat) (l0 : List Int) (p1 : Option Addr) (n1 c1 : Nat) (l1 : List Int) (t s : Int) (w : World) (h0 : DotsL w p0 n0 l0) (h1 : DotsL w p1 n1 l1) :
    Calls Tryz.prog 15 #[.slice p0 n0 c0, .slice p1 n1 c1, .agg #[.int .i64 t, .int .i64 s]] w (AwP w) := by
  replace h0 := Lib.hid h0
  replace h1 := Lib.hid h1
  go_enter Tryz.func15, Tryz.ntmps15
  go_wp2_with fail
  refine calls_at (fun v0 hW => ?_)
  have hX : Blk v0 w.heap.size 35 #[.int .i64 t, .int .i64 s] := by rw [hW]; exact Blk.new w _ _
  have hb : Below w.heap.size w v0 := by rw [hW]; exact (Below.refl _ _).alloc (Nat.le_refl _) _
  clear hW
  refine (awake_c v0).mono ?_
  rintro e w1 ⟨rfl, hb1⟩
  replace hX := hX.below hb1
  replace hb := hb.trans (hb1.mono hb.size)
  clear hb1
  go_wp2_with fail
  refine calls_at (fun w2 hW => ?_)
  have hB : Blk w2 w1.heap.size 23 #[.slice p0 n0 c0, .slice p1 n1 c1] := by rw [hW]; exact Blk.new _ _ _
  have hb2 : Below w1.heap.size w1 w2 := by rw [hW]; exact (Below.refl _ _).alloc (Nat.le_refl _) _
  clear hW
  replace hX := hX.below hb2
  replace hb := hb.trans (hb2.mono hb.size)
  clear hb2
  refine (small_c _ 2 2 (sel2 p0 p1) (sel2 n0 n1) (sel2 c0 c1) w2 (rows_at hB 2 _ (fun i hi => by have h : i = 0 ∨ i = 1 := (by omega); rcases h with rfl | rfl <;> rfl))).mono ?_
  rintro e w3 ⟨⟨sm, rfl, hsm⟩, hb3⟩
  replace hsm := Lib.hid hsm
  replace hX := hX.below hb3
  replace hb := hb.trans (hb3.mono hb.size)
  clear hb3 hB
  cases sm
  · go_wp2
    go_returns
    exact ⟨rfl, hb⟩
  obtain ⟨_, hsm⟩ := hsm.out rfl
  have hn0 : n0 ≤ 1000 := Nat.le_trans (hsm 0 (by decide)) (by decide)
  have hn1 : n1 ≤ 1000 := Nat.le_trans (hsm 1 (by decide)) (by decide)
  clear hsm
  have hll := lentDots_c p0 n0 c0 l0 (by omega) w3 (h0.out.below hb)
  replace hll := Lib.hid hll
  go_wp2_with fail
  refine hll.out.mono ?_
  rintro e w4 ⟨g0, k0, rfl, hk0, ho0, hb4⟩
  have hx := own_dots ho0
  replace hX := hX.below hb4
  replace hb := hb.trans (hb4.mono hb.size)
  clear hb4 ho0 hll
  have hll := lentDots_c p1 n1 c1 l1 (by omega) w4 (h1.out.below hb)
  replace hll := Lib.hid hll
  replace hx := Lib.hid hx
  go_wp2_with fail
  refine hll.out.mono ?_
  rintro e w5 ⟨g1, k1, rfl, hk1, ho1, hb5⟩
  have hy := own_dots ho1
  replace hx := hx.out.below hb5
  replace hX := hX.below hb5
  replace hb := hb.trans (hb5.mono hb.size)
  clear hb5 ho1 hll
  have hx2 := lent_dots h0.out.1 hx
  have hy2 := lent_dots h1.out.1 hy
  have q1 := fun w' hb2 => vright_c (some ⟨g0, 0, none⟩) n0 k0 (lD l0) (by omega) w' ((hx2.2).below (w := w5) (w' := w') hb2)
  have q2 := fun w' hb2 => rright_c p0 n0 c0 (lD l0) (by omega) w' ((h0.out.below hb).2.below (w := w5) (w' := w') hb2)
  have q3 := fun w' hb2 => vhas_c (some ⟨g0, 0, none⟩) n0 k0 (lD l0) t s (by omega) w' ((hx2.2).below (w := w5) (w' := w') hb2)
  have q4 := fun w' hb2 => rhas_c p0 n0 c0 (lD l0) t s (by omega) w' ((h0.out.below hb).2.below (w := w5) (w' := w') hb2)
  have q5 := fun w' hb2 => covers_c (some ⟨g0, 0, none⟩) n0 k0 (lD l0) (some ⟨g1, 0, none⟩) n1 k1 (lD l1) (by omega) (by omega) w' ((hx2.2).below (w := w5) (w' := w') hb2) ((hy2.2).below hb2)
  have q6 := fun w' hb2 => rcovers_c p0 n0 c0 (lD l0) p1 n1 c1 (lD l1) (by omega) (by omega) w' ((h0.out.below hb).2.below (w := w5) (w' := w') hb2) ((h1.out.below hb).2.below hb2)
  have q7 := fun w' hb2 => keptDots_c g0 k0 p0 n0 c0 l0 (by omega) hk0 w' (hx.below (w := w5) (w' := w') hb2) ((h0.out.below hb).below hb2)
  have q8 := fun w' hb2 => keptDots_c g1 k1 p1 n1 c1 l1 (by omega) hk1 w' (hy.below (w := w5) (w' := w') hb2) ((h1.out.below hb).below hb2)
  rw [hasR_eq] at q4
  rw [covR_eq] at q6
  generalize rightD n0 (lD l0) = r1 at *
  generalize hasV n0 (lD l0) t s = r2 at *
  generalize covB n0 (lD l0) n1 (lD l1) = r3 at *
  replace q1 := Lib.hid q1
  replace q2 := Lib.hid q2
  replace q3 := Lib.hid q3
  replace q4 := Lib.hid q4
  replace q5 := Lib.hid q5
  replace q6 := Lib.hid q6
  replace q7 := Lib.hid q7
  replace q8 := Lib.hid q8
  have z1 : (r1 == r1) = true := beq_self_eq_true _
  have z2 : (r2 == r2) = true := beq_self_eq_true _
  have z3 : (r3 == r3) = true := beq_self_eq_true _
  clear hx hy hx2 hy2 hk0 hk1
  have hbc : Below w5.heap.size w5 w5.drew := (Below.refl _ _).drew
  generalize hXe : w.heap.size = XB at *
  replace hXe := Lib.hid hXe
  go_wp2
  go_region_held3 (fun w' => w'.cell? ⟨XB, 0, none⟩ = some (.int .i64 t) ∧ w'.cell? ⟨XB, 1, none⟩ = some (.int .i64 s)) (first | exact ⟨(hX.below hbc).cell 0, (hX.below hbc).cell 1⟩ | exact ⟨hX.cell 0, hX.cell 1⟩) (first
    | (go_at_call 18; refine (q1.out _ hbc).mono ?_; rintro e w2 ⟨rfl, hb2⟩; replace hbc := hbc.trans (hb2.mono hbc.size); clear hb2 q1)
    | (go_at_call 24; refine (q2.out _ hbc).mono ?_; rintro e w2 ⟨rfl, hb2⟩; replace hbc := hbc.trans (hb2.mono hbc.size); clear hb2 q2)
    | (go_at_call 16; refine (q3.out _ hbc).mono ?_; rintro e w2 ⟨rfl, hb2⟩; replace hbc := hbc.trans (hb2.mono hbc.size); clear hb2 q3)
    | (go_at_call 28; refine (q4.out _ hbc).mono ?_; rintro e w2 ⟨rfl, hb2⟩; replace hbc := hbc.trans (hb2.mono hbc.size); clear hb2 q4)
    | (go_at_call 29; refine (q5.out _ hbc).mono ?_; rintro e w2 ⟨rfl, hb2⟩; replace hbc := hbc.trans (hb2.mono hbc.size); clear hb2 q5)
    | (go_at_call 30; refine (q6.out _ hbc).mono ?_; rintro e w2 ⟨rfl, hb2⟩; replace hbc := hbc.trans (hb2.mono hbc.size); clear hb2 q6)
    | (go_at_call 13; refine (q7.out _ hbc).mono ?_; rintro e w2 ⟨rfl, hb2⟩; replace hbc := hbc.trans (hb2.mono hbc.size); clear hb2 q7)
    | (go_at_call 13; refine (q8.out _ hbc).mono ?_; rintro e w2 ⟨rfl, hb2⟩; replace hbc := hbc.trans (hb2.mono hbc.size); clear hb2 q8))
  clear hX
  go_wp2
  go_returns
  have hXe2 := hXe.out
  subst hXe2
  exact ⟨rfl, hb.trans (hbc.mono hb.size)⟩
end Go.Proofs.YtofgkfdfondajaaGreat
