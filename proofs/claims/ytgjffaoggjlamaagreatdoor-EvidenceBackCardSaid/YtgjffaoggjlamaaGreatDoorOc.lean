/- evidence: Of where there is. law16: seed, signed. evidence: Check, where both were signed. -/
import Derived.Test.YtgjffaoggjlamaaGreatDoorOb
import Derived.Test.YtgjffaoggjlamaaGreatDoorZd
import Derived.Test.YtgjffaoggjlamaaGreatDoorOa
import Derived.Deep.RegionHeld3
namespace Go.Proofs.YtgjffaoggjlamaaGreatDoor
open Go Go.RowKit
def PostEv (r s q : Int) (S1 G1 S2 G2 : Nat → Int) (w : World) (e : Ending) (w' : World) : Prop := ∃ a1 b1 a2 b2 a3 b3 a4 b4, e = .returned (.tuple #[.agg #[.int .i64 r, .int .i64 s, .int .i64 q, .slice (some ⟨a1, 0, none⟩) 64 b1, .slice (some ⟨a2, 0, none⟩) 64 b2, .int .i64 r, .int .i64 s, .int .i64 q, .slice (some ⟨a3, 0, none⟩) 64 b3, .slice (some ⟨a4, 0, none⟩) 64 b4], .int .i64 0]) ∧ RowB w' a1 64 b1 S1 ∧ RowB w' a2 64 b2 G1 ∧ RowB w' a3 64 b3 S2 ∧ RowB w' a4 64 b4 G2 ∧ Below w.heap.size w w'
set_option maxRecDepth 20000 in
set_option maxHeartbeats 8000000 in
theorem Of_lt (r s q : Int) (g1 o1 c1 h1 i1 d1 : Nat) (S1 G1 : Nat → Int) (g2 o2 c2 h2 i2 d2 : Nat) (S2 G2 : Nat → Int) (hO : ordI r s q 64 64 S1 r s q 64 64 S2 = -1) (w : World) (hX1 : BX [] w (some ⟨g1, o1, none⟩) 64 S1) (hY1 : BX [] w (some ⟨h1, i1, none⟩) 64 G1) (hX2 : BX [] w (some ⟨g2, o2, none⟩) 64 S2) (hY2 : BX [] w (some ⟨h2, i2, none⟩) 64 G2) : Calls Tryz.prog 20 #[.agg #[.int .i64 r, .int .i64 s, .int .i64 q, .slice (some ⟨g1, o1, none⟩) 64 c1, .slice (some ⟨h1, i1, none⟩) 64 d1], .agg #[.int .i64 r, .int .i64 s, .int .i64 q, .slice (some ⟨g2, o2, none⟩) 64 c2, .slice (some ⟨h2, i2, none⟩) 64 d2]] w (PostEv r s q S1 G1 S2 G2 w) := by
  have ho := fun w1 (hb : Below w.heap.size w w1) => eorder_c r s q (some ⟨g1, o1, none⟩) 64 c1 (some ⟨h1, i1, none⟩) 64 d1 r s q (some ⟨g2, o2, none⟩) 64 c2 (some ⟨h2, i2, none⟩) 64 d2 S1 S2 w1 (hX1.below hb) (hX2.below hb)
  rw [hO] at ho
  have hw := fun g o c h i d S G w1 (hx : BX [] w1 (some ⟨g, o, none⟩) 64 S) (hy : BX [] w1 (some ⟨h, i, none⟩) 64 G) => show Calls Tryz.prog 72 #[.agg #[.int .i64 r, .int .i64 s, .int .i64 q, .slice (some ⟨g, o, none⟩) 64 c, .slice (some ⟨h, i, none⟩) 64 d]] w1 (PostOw r s q S G w1) from by
    obtain ⟨g', o', e, hg, -, hc⟩ := hx (by decide)
    obtain ⟨h', i', e', hh, -, hd⟩ := hy (by decide)
    injection e with e
    injection e with e1 e2
    injection e' with e'
    injection e' with e3 e4
    subst e1 e2 e3 e4
    exact own_c r s q g o c h i d S G w1 hg hc hh hd
  have hw1 := Lib.hid (fun w1 (hb : Below w.heap.size w w1) => hw g1 o1 c1 h1 i1 d1 S1 G1 w1 (hX1.below hb) (hY1.below hb))
  have hw2 := Lib.hid (fun w1 (hb : Below w.heap.size w w1) => hw g2 o2 c2 h2 i2 d2 S2 G2 w1 (hX2.below hb) (hY2.below hb))
  replace ho := Lib.hid ho
  clear hX1 hX2 hY1 hY2 hO hw
  go_enter Tryz.func20, Tryz.ntmps20
  go_wp2_with fail
  refine calls_at (fun W0 hW => ?_)
  have hb0 : Below w.heap.size w W0 := by rw [hW]; go_grown
  obtain ⟨gA, hgA⟩ : ∃ g, g = w.heap.size := ⟨_, rfl⟩
  obtain ⟨gA2, hgA2⟩ : ∃ g, g = w.heap.size + 1 := ⟨_, rfl⟩
  obtain ⟨gE, hgE⟩ : ∃ g, g = w.heap.size + 2 := ⟨_, rfl⟩
  have kA : Blk W0 gA 28 #[.int .i64 r, .int .i64 s, .int .i64 q, .slice (some ⟨g1, o1, none⟩) 64 c1, .slice (some ⟨h1, i1, none⟩) 64 d1] := by rw [hW, hgA]; exact ((Blk.new _ _ _).alloc _).alloc _
  have kB : Blk W0 gA2 28 #[.int .i64 r, .int .i64 s, .int .i64 q, .slice (some ⟨g2, o2, none⟩) 64 c2, .slice (some ⟨h2, i2, none⟩) 64 d2] := by rw [hW, hgA2]; exact (blk_at (by simp) (Blk.new _ _ _)).alloc _
  have kE : Blk W0 gE 36 #[.int .i64 0, .int .i64 0, .int .i64 0, .slice none 0 0, .slice none 0 0, .int .i64 0, .int .i64 0, .int .i64 0, .slice none 0 0, .slice none 0 0] := by rw [hW, hgE]; exact blk_at (by simp) (Blk.new _ _ _)
  have lg : w.heap.size ≤ gE := by omega
  have lW : w.heap.size + 3 ≤ W0.heap.size := by have := kE.lt; omega
  have eG := Lib.hid hgE
  rw [← hgE, ← hgA2, ← hgA]
  clear hW hgE hgA2 hgA
  refine (ho.out W0 hb0).mono ?_
  rintro e w5 ⟨rfl, hb2⟩
  replace hb0 := hb0.trans (hb2.mono hb0.size)
  replace kA := kA.below hb2
  replace kB := kB.below hb2
  replace kE := Lib.hid (kE.below hb2)
  have hl5 := Nat.le_trans lW hb2.size
  clear ho hb2 lW
  obtain ⟨y0, y1, y2, y3, y4⟩ := blk5v kA
  obtain ⟨z0, z1, z2, z3, z4⟩ := blk5v kB
  have k2 := Lib.hid kB
  have l2 := k2.out.lt
  have h0 := Below.refl w5.heap.size w5
  have hs := hb0.size
  replace hb0 := Lib.hid hb0
  clear kA kB
  go_upto_region 3 with fail
  go_region_with (first | (go_at_call 72; (with_reducible refine (hw1.out _ (hb0.out.trans (h0.drew.mono hs))).mono ?_); rintro e w6 ⟨a1, b1, a2, b2, rfl, ha1, ha2, q1, q2, k6⟩; replace q1 := Lib.hid q1; replace q2 := Lib.hid q2; replace k6 := h0.drew.trans (k6.mono h0.size); obtain ⟨x0, x1, x2, x3, x4⟩ := blk5v (k2.out.below k6); have l6 := (k2.out.below k6).lt) | (go_at_call 72; (with_reducible refine (hw2.out w6 (hb0.out.trans (k6.mono hs))).mono ?_); rintro e w7 ⟨a3, b3, a4, b4, rfl, ha3, ha4, q3, q4, k76⟩; have k7 := k6.trans (k76.mono k6.size); have kE7 := kE.out.below k7; have f0 := kE7.frozen 0; have f1 := kE7.frozen 1; have f2 := kE7.frozen 2; have f3 := kE7.frozen 3; have f4 := kE7.frozen 4; have f5 := kE7.frozen 5; have f6 := kE7.frozen 6; have f7 := kE7.frozen 7; have f8 := kE7.frozen 8; have f9 := kE7.frozen 9; obtain ⟨⟨v0, v1, v2, v3, v4⟩, v5, v6, v7, v8, v9⟩ := blk10v kE7))
  all_goals
    have eGE := eG.out
    have m6 := k6.size
    replace ha1 : w5.heap.size ≤ a1 := ha1
    replace ha2 : w5.heap.size ≤ a2 := ha2
    have n1 : a1 ≠ gE := by omega
    have n2 : a2 ≠ gE := by omega
    have n3 : a3 ≠ gE := by omega
    have n4 : a4 ≠ gE := by omega
    have p1 := Lib.hid (q1.out.below k76)
    have p2 := Lib.hid (q2.out.below k76)
    have hb7 := Lib.hid (hb0.out.trans (k7.mono hs))
    have hs7 := hb7.out.size
    replace q3 := Lib.hid q3
    replace q4 := Lib.hid q4
    clear eGE q1 q2 k76 k7 k6 kE hb0 h0 k2 hw1 hw2 y0 y1 y2 y3 y4 z0 z1 z2 z3 z4 x0 x1 x2 x3 x4 ha1 ha2 ha3 ha4 l6 l2 m6 eG hl5
    go_wp2_with fail
    obtain ⟨kF, hgF⟩ := setTen w7 gE (.int .i64 r) (.int .i64 s) (.int .i64 q) (.slice (some ⟨a1, 0, none⟩) 64 b1) (.slice (some ⟨a2, 0, none⟩) 64 b2) (.int .i64 r) (.int .i64 s) (.int .i64 q) (.slice (some ⟨a3, 0, none⟩) 64 b3) (.slice (some ⟨a4, 0, none⟩) 64 b4) kE7
    generalize ((((((((((w7.setCell ⟨gE, 0, none⟩ (.int .i64 r)).setCell ⟨gE, 1, none⟩ (.int .i64 s)).setCell ⟨gE, 2, none⟩ (.int .i64 q)).setCell ⟨gE, 3, none⟩ (.slice (some ⟨a1, 0, none⟩) 64 b1)).setCell ⟨gE, 4, none⟩ (.slice (some ⟨a2, 0, none⟩) 64 b2)).setCell ⟨gE, 5, none⟩ (.int .i64 r)).setCell ⟨gE, 6, none⟩ (.int .i64 s)).setCell ⟨gE, 7, none⟩ (.int .i64 q)).setCell ⟨gE, 8, none⟩ (.slice (some ⟨a3, 0, none⟩) 64 b3)).setCell ⟨gE, 9, none⟩ (.slice (some ⟨a4, 0, none⟩) 64 b4)) = w13 at *
    obtain ⟨⟨u0, u1, u2, u3, u4⟩, u5, u6, u7, u8, u9⟩ := blk10v kF
    have hbf : Below w.heap.size w w13 := hb7.out.grown hgF hs7 (fun k hk => by have : gE = k := Option.some.inj hk; omega)
    refine bodyPost_ret (v := .tuple #[.agg #[.int .i64 r, .int .i64 s, .int .i64 q, .slice (some ⟨a1, 0, none⟩) 64 b1, .slice (some ⟨a2, 0, none⟩) 64 b2, .int .i64 r, .int .i64 s, .int .i64 q, .slice (some ⟨a3, 0, none⟩) 64 b3, .slice (some ⟨a4, 0, none⟩) 64 b4], .int .i64 0]) (by simp [results, Tryz.results20, go_sem, u0, u1, u2, u3, u4, u5, u6, u7, u8, u9]) rfl ⟨a1, b1, a2, b2, a3, b3, a4, b4, rfl, p1.out.grown hgF (fun e => n1 (Option.some.inj e)), p2.out.grown hgF (fun e => n2 (Option.some.inj e)), q3.out.grown hgF (fun e => n3 (Option.some.inj e)), q4.out.grown hgF (fun e => n4 (Option.some.inj e)), hbf⟩
set_option maxRecDepth 20000 in
set_option maxHeartbeats 8000000 in
theorem Of_gt (r s q : Int) (g1 o1 c1 h1 i1 d1 : Nat) (S1 G1 : Nat → Int) (g2 o2 c2 h2 i2 d2 : Nat) (S2 G2 : Nat → Int) (hO : ordI r s q 64 64 S1 r s q 64 64 S2 = 1) (w : World) (hX1 : BX [] w (some ⟨g1, o1, none⟩) 64 S1) (hY1 : BX [] w (some ⟨h1, i1, none⟩) 64 G1) (hX2 : BX [] w (some ⟨g2, o2, none⟩) 64 S2) (hY2 : BX [] w (some ⟨h2, i2, none⟩) 64 G2) : Calls Tryz.prog 20 #[.agg #[.int .i64 r, .int .i64 s, .int .i64 q, .slice (some ⟨g1, o1, none⟩) 64 c1, .slice (some ⟨h1, i1, none⟩) 64 d1], .agg #[.int .i64 r, .int .i64 s, .int .i64 q, .slice (some ⟨g2, o2, none⟩) 64 c2, .slice (some ⟨h2, i2, none⟩) 64 d2]] w (PostEv r s q S2 G2 S1 G1 w) := by
  have ho := fun w1 (hb : Below w.heap.size w w1) => eorder_c r s q (some ⟨g1, o1, none⟩) 64 c1 (some ⟨h1, i1, none⟩) 64 d1 r s q (some ⟨g2, o2, none⟩) 64 c2 (some ⟨h2, i2, none⟩) 64 d2 S1 S2 w1 (hX1.below hb) (hX2.below hb)
  rw [hO] at ho
  have hw := fun g o c h i d S G w1 (hx : BX [] w1 (some ⟨g, o, none⟩) 64 S) (hy : BX [] w1 (some ⟨h, i, none⟩) 64 G) => show Calls Tryz.prog 72 #[.agg #[.int .i64 r, .int .i64 s, .int .i64 q, .slice (some ⟨g, o, none⟩) 64 c, .slice (some ⟨h, i, none⟩) 64 d]] w1 (PostOw r s q S G w1) from by
    obtain ⟨g', o', e, hg, -, hc⟩ := hx (by decide)
    obtain ⟨h', i', e', hh, -, hd⟩ := hy (by decide)
    injection e with e
    injection e with e1 e2
    injection e' with e'
    injection e' with e3 e4
    subst e1 e2 e3 e4
    exact own_c r s q g o c h i d S G w1 hg hc hh hd
  have hw1 := Lib.hid (fun w1 (hb : Below w.heap.size w w1) => hw g2 o2 c2 h2 i2 d2 S2 G2 w1 (hX2.below hb) (hY2.below hb))
  have hw2 := Lib.hid (fun w1 (hb : Below w.heap.size w w1) => hw g1 o1 c1 h1 i1 d1 S1 G1 w1 (hX1.below hb) (hY1.below hb))
  replace ho := Lib.hid ho
  clear hX1 hX2 hY1 hY2 hO hw
  go_enter Tryz.func20, Tryz.ntmps20
  go_wp2_with fail
  refine calls_at (fun W0 hW => ?_)
  have hb0 : Below w.heap.size w W0 := by rw [hW]; go_grown
  obtain ⟨gA, hgA⟩ : ∃ g, g = w.heap.size := ⟨_, rfl⟩
  obtain ⟨gA2, hgA2⟩ : ∃ g, g = w.heap.size + 1 := ⟨_, rfl⟩
  obtain ⟨gE, hgE⟩ : ∃ g, g = w.heap.size + 2 := ⟨_, rfl⟩
  have kA : Blk W0 gA 28 #[.int .i64 r, .int .i64 s, .int .i64 q, .slice (some ⟨g1, o1, none⟩) 64 c1, .slice (some ⟨h1, i1, none⟩) 64 d1] := by rw [hW, hgA]; exact ((Blk.new _ _ _).alloc _).alloc _
  have kB : Blk W0 gA2 28 #[.int .i64 r, .int .i64 s, .int .i64 q, .slice (some ⟨g2, o2, none⟩) 64 c2, .slice (some ⟨h2, i2, none⟩) 64 d2] := by rw [hW, hgA2]; exact (blk_at (by simp) (Blk.new _ _ _)).alloc _
  have kE : Blk W0 gE 36 #[.int .i64 0, .int .i64 0, .int .i64 0, .slice none 0 0, .slice none 0 0, .int .i64 0, .int .i64 0, .int .i64 0, .slice none 0 0, .slice none 0 0] := by rw [hW, hgE]; exact blk_at (by simp) (Blk.new _ _ _)
  have lg : w.heap.size ≤ gE := by omega
  have lW : w.heap.size + 3 ≤ W0.heap.size := by have := kE.lt; omega
  have eG := Lib.hid hgE
  rw [← hgE, ← hgA2, ← hgA]
  clear hW hgE hgA2 hgA
  refine (ho.out W0 hb0).mono ?_
  rintro e w5 ⟨rfl, hb2⟩
  replace hb0 := hb0.trans (hb2.mono hb0.size)
  replace kA := kA.below hb2
  replace kB := kB.below hb2
  replace kE := Lib.hid (kE.below hb2)
  have hl5 := Nat.le_trans lW hb2.size
  clear ho hb2 lW
  obtain ⟨y0, y1, y2, y3, y4⟩ := blk5v kB
  obtain ⟨z0, z1, z2, z3, z4⟩ := blk5v kA
  have k2 := Lib.hid kA
  have l2 := k2.out.lt
  have h0 := Below.refl w5.heap.size w5
  have hs := hb0.size
  replace hb0 := Lib.hid hb0
  clear kA kB
  go_upto_region 5 with fail
  go_region_with (first | (go_at_call 72; (with_reducible refine (hw1.out _ (hb0.out.trans (h0.drew.mono hs))).mono ?_); rintro e w6 ⟨a1, b1, a2, b2, rfl, ha1, ha2, q1, q2, k6⟩; replace q1 := Lib.hid q1; replace q2 := Lib.hid q2; replace k6 := h0.drew.trans (k6.mono h0.size); obtain ⟨x0, x1, x2, x3, x4⟩ := blk5v (k2.out.below k6); have l6 := (k2.out.below k6).lt) | (go_at_call 72; (with_reducible refine (hw2.out w6 (hb0.out.trans (k6.mono hs))).mono ?_); rintro e w7 ⟨a3, b3, a4, b4, rfl, ha3, ha4, q3, q4, k76⟩; have k7 := k6.trans (k76.mono k6.size); have kE7 := kE.out.below k7; have f0 := kE7.frozen 0; have f1 := kE7.frozen 1; have f2 := kE7.frozen 2; have f3 := kE7.frozen 3; have f4 := kE7.frozen 4; have f5 := kE7.frozen 5; have f6 := kE7.frozen 6; have f7 := kE7.frozen 7; have f8 := kE7.frozen 8; have f9 := kE7.frozen 9; obtain ⟨⟨v0, v1, v2, v3, v4⟩, v5, v6, v7, v8, v9⟩ := blk10v kE7))
  all_goals
    have eGE := eG.out
    have m6 := k6.size
    replace ha1 : w5.heap.size ≤ a1 := ha1
    replace ha2 : w5.heap.size ≤ a2 := ha2
    have n1 : a1 ≠ gE := by omega
    have n2 : a2 ≠ gE := by omega
    have n3 : a3 ≠ gE := by omega
    have n4 : a4 ≠ gE := by omega
    have p1 := Lib.hid (q1.out.below k76)
    have p2 := Lib.hid (q2.out.below k76)
    have hb7 := Lib.hid (hb0.out.trans (k7.mono hs))
    have hs7 := hb7.out.size
    replace q3 := Lib.hid q3
    replace q4 := Lib.hid q4
    clear eGE q1 q2 k76 k7 k6 kE hb0 h0 k2 hw1 hw2 y0 y1 y2 y3 y4 z0 z1 z2 z3 z4 x0 x1 x2 x3 x4 ha1 ha2 ha3 ha4 l6 l2 m6 eG hl5
    go_wp2_with fail
    obtain ⟨kF, hgF⟩ := setTen w7 gE (.int .i64 r) (.int .i64 s) (.int .i64 q) (.slice (some ⟨a1, 0, none⟩) 64 b1) (.slice (some ⟨a2, 0, none⟩) 64 b2) (.int .i64 r) (.int .i64 s) (.int .i64 q) (.slice (some ⟨a3, 0, none⟩) 64 b3) (.slice (some ⟨a4, 0, none⟩) 64 b4) kE7
    generalize ((((((((((w7.setCell ⟨gE, 0, none⟩ (.int .i64 r)).setCell ⟨gE, 1, none⟩ (.int .i64 s)).setCell ⟨gE, 2, none⟩ (.int .i64 q)).setCell ⟨gE, 3, none⟩ (.slice (some ⟨a1, 0, none⟩) 64 b1)).setCell ⟨gE, 4, none⟩ (.slice (some ⟨a2, 0, none⟩) 64 b2)).setCell ⟨gE, 5, none⟩ (.int .i64 r)).setCell ⟨gE, 6, none⟩ (.int .i64 s)).setCell ⟨gE, 7, none⟩ (.int .i64 q)).setCell ⟨gE, 8, none⟩ (.slice (some ⟨a3, 0, none⟩) 64 b3)).setCell ⟨gE, 9, none⟩ (.slice (some ⟨a4, 0, none⟩) 64 b4)) = w13 at *
    obtain ⟨⟨u0, u1, u2, u3, u4⟩, u5, u6, u7, u8, u9⟩ := blk10v kF
    have hbf : Below w.heap.size w w13 := hb7.out.grown hgF hs7 (fun k hk => by have : gE = k := Option.some.inj hk; omega)
    refine bodyPost_ret (v := .tuple #[.agg #[.int .i64 r, .int .i64 s, .int .i64 q, .slice (some ⟨a1, 0, none⟩) 64 b1, .slice (some ⟨a2, 0, none⟩) 64 b2, .int .i64 r, .int .i64 s, .int .i64 q, .slice (some ⟨a3, 0, none⟩) 64 b3, .slice (some ⟨a4, 0, none⟩) 64 b4], .int .i64 0]) (by simp [results, Tryz.results20, go_sem, u0, u1, u2, u3, u4, u5, u6, u7, u8, u9]) rfl ⟨a1, b1, a2, b2, a3, b3, a4, b4, rfl, p1.out.grown hgF (fun e => n1 (Option.some.inj e)), p2.out.grown hgF (fun e => n2 (Option.some.inj e)), q3.out.grown hgF (fun e => n3 (Option.some.inj e)), q4.out.grown hgF (fun e => n4 (Option.some.inj e)), hbf⟩
end Go.Proofs.YtgjffaoggjlamaaGreatDoor

namespace Go.Proofs.YtgjffaoggjlamaaGreatDoor
open Go Go.RowKit
/-- a replica's seed -/
def sdI (r : Int) (j : Nat) : Int := IntKind.u8.wrap (r + 3 * (j : Int))
theorem sdI_byt (r : Int) : Sc.Byt (sdI r) := fun j => by
  unfold sdI
  simp [IntKind.wrap, IntKind.bits, IntKind.signed]
  omega
/-- n bytes, and zeros -/
def cpI (n : Nat) (b : Nat → Int) (j : Nat) : Int := if j < n then b j else 0
theorem cpI_byt {n : Nat} {b : Nat → Int} (h : Sc.Byt b) : Sc.Byt (cpI n b) := fun j => by
  unfold cpI
  split
  · exact h j
  · exact (show (0 : Int) ≤ 0 ∧ (0 : Int) < 256 by decide)
section
variable {ops : Array Oper} {rest : List Oper} {o : Oper} {a : Act} {w : World} {Q : Exit → Act → World → Prop}
theorem wpList_cp64 (hgd : o.guard = none) {s x : Operand} (ho : o.op = .call { callee := .builtin .copy, args := #[s, x], argTypes := #[26, 26] }) {g : Nat} (hs : a.eval s = .slice (some ⟨g, 0, none⟩) 64 64) {p : Option Addr} {n c : Nat} (hx : a.eval x = .slice p n c) (hn : n ≤ 64) (hR : RowB w g 64 64 (fun _ => 0)) (b : Nat → Int) (hX : BAt w p n b)
    (h : ∀ w', RowB w' g 64 64 (cpI n b) → w.grownBy w' (some g) → wpList Tryz.prog ops Q rest (a.put o.dst (.int .i64 n)) w') : wpList Tryz.prog ops Q (o :: rest) a w := by
  by_cases h0 : n = 0
  · subst h0
    refine wpList_plain hgd fun _ hK => ?_
    have hr := run_copy_none (P := Tryz.prog) w 26 26 o.type 5 (some ⟨g, 0, none⟩) p 64 64 0 c bs_underK (by kernel_rfl) rfl
    unfold Oper.wp execOp
    simp only [ho, resolve, invoke, builtin, Sem.run_bind, Sem.run_pure, Result.andThen_ok, List.map_toArray, List.map_cons, List.map_nil, hs, hx, hr]
    exact hK _ _ (h w (hR.congr (fun j _ => by unfold cpI; rw [if_neg (by omega)])) ⟨rfl, rfl, rfl, Nat.le_refl _, fun _ _ _ => rfl⟩)
  · obtain ⟨g2, o2, rfl, hg2, hc2⟩ := hX (by omega)
    obtain ⟨cur, h1, _, _, h3, h4⟩ := hR
    have hl : cur.toList = cB 64 (fun _ => 0) := by
      rw [← h4, List.take_of_length_le (by simp [h3])]
    refine wpList_cp hgd ho hs hx h1 (cB n b) (by rw [cB_len]; exact (Nat.min_eq_left hn).symm) (fun j v hv => ?_) (by rw [cB_len, h3]; omega) cB_one (fun w' hB hgr => ?_)
    · have hj : j < n := by have := (List.getElem?_eq_some_iff.1 hv).1; rwa [cB_len] at this
      rw [cB_get n b j hj] at hv
      rw [add_o, hc2 j hj, hv]
    · rw [cB_len]
      refine h w' ⟨_, hB, Nat.le_refl _, by unfold maxLen; omega, by simp [cB_len, h3]; omega, ?_⟩ hgr
      rw [hl, cB_len]
      apply List.ext_getElem?
      intro j
      by_cases hj : j < 64
      · rw [cB_get 64 _ j hj, List.getElem?_take_of_lt hj]
        simp only [List.take_zero, List.nil_append, Nat.zero_add]
        unfold cpI
        by_cases hjn : j < n
        · rw [if_pos hjn, List.getElem?_append_left (by rw [cB_len]; exact hjn), cB_get n b j hjn]
        · rw [if_neg hjn, List.getElem?_append_right (by rw [cB_len]; omega), cB_len, List.getElem?_drop, show n + (j - n) = j by omega, cB_get 64 _ j hj]
      · rw [List.getElem?_eq_none (by simp; omega), List.getElem?_eq_none (by rw [cB_len]; omega)]
end
set_option maxRecDepth 20000 in
set_option maxHeartbeats 2000000 in
theorem seed16_c (r : Int) (h0 : 0 ≤ r) (h1 : r ≤ 1000) (w : World) : Calls Tryz.prog 19 #[.int .i64 r] w (PostBs 32 (sdI r) w) := by
  have hmk : ∀ w, (Instr.makeSlice 26 (.int .i64 32) (.int .i64 32)).run Tryz.prog w = .ok (.slice (some ⟨w.heap.size, 0, none⟩) 32 32) (w.alloc (.cells (List.replicate 32 (.int .u8 0)).toArray 5)) := fun _ => by kernel_rfl
  have hz := Lib.hid (row_zero w 32 (by decide))
  have hb0 := Lib.hid (show Below w.heap.size w (w.alloc (.cells (List.replicate 32 (.int .u8 0)).toArray 5)) from (Below.refl _ _).alloc (Nat.le_refl _) _)
  obtain ⟨S, hS⟩ : ∃ S, S = sdI r := ⟨_, rfl⟩
  have hS' := Lib.hid hS
  rw [← hS]
  clear hS
  replace h0 := Lib.hid h0
  replace h1 := Lib.hid h1
  go_enter Tryz.func19, Tryz.ntmps19
  go_wp2
  obtain ⟨G, hG⟩ : ∃ g, g = w.heap.size := ⟨_, rfl⟩
  rw [← hG]
  replace hG := Lib.hid hG
  go_loopw [4] (fun i wr => ∃ k : Nat, k ≤ 32 ∧ i = .int .i64 k ∧ RowB wr G 32 32 (fun j => if j < k then S j else 0) ∧ Below w.heap.size w wr) (fun i _ => (32 - intOf i).toNat)
  case atStart => exact ⟨0, by omega, rfl, by rw [hG.out]; exact (show RowB _ w.heap.size 32 32 (fun _ => 0) from hz.out).congr (fun j _ => by rw [if_neg (by omega)]), hb0.out⟩
  case round =>
    obtain ⟨k, hk, hi, hR, hb⟩ := hrel
    subst hi
    by_cases he : k = 32
    · subst he
      have hl : w.heap.size ≤ G := by rw [hG.out]; exact Nat.le_refl _
      go_wp2
      go_returns
      exact ⟨G, 32, rfl, hl, hR.congr (fun j hj => if_pos hj), hb⟩
    · have hk1 : (k : Int) < 32 := by omega
      have hk0 : (0 : Int) ≤ (k : Int) := by omega
      have hw1 : IntKind.i64.wrap (3 * (k : Int)) = 3 * (k : Int) := by rw [IntKind.wrap_i64]; omega
      have hw2 : IntKind.i64.wrap (r + 3 * (k : Int)) = r + 3 * (k : Int) := by rw [IntKind.wrap_i64]; have := h0.out; have := h1.out; omega
      have hw3 : IntKind.u8.wrap (r + 3 * (k : Int)) = S k := by rw [hS'.out]; rfl
      have x0 := hR.cell k (by omega)
      have x1 := hR.frozen k
      have hs := Lib.hid ((hR.set_ k (by omega) (S k)).congr (f' := fun j => if j < k + 1 then S j else 0) (fun j _ => by
        show (if j = k then S k else if j < k then S j else 0) = _
        by_cases e : j = k
        · subst e; rw [if_pos rfl, if_pos (by omega)]
        · rw [if_neg e]
          by_cases e2 : j < k
          · rw [if_pos e2, if_pos (by omega)]
          · rw [if_neg e2, if_neg (by omega)]))
      have hb2 := Lib.hid (hb.setCell (p := ⟨G, k, none⟩) (by show w.heap.size ≤ G; rw [hG.out]; exact Nat.le_refl _) (.int .u8 (S k)))
      clear hR hb
      go_wp2
      exact ⟨⟨k + 1, by omega, rfl, hs.out, hb2.out⟩, by simp [intOf]; omega⟩
set_option maxRecDepth 20000 in
set_option maxHeartbeats 4000000 in
theorem signed_c (r s q : Int) (hsh : shT r s q 64 = true) (p : Option Addr) (n c : Nat) (b : Nat → Int) (hn : n ≤ 64) (hb : Sc.Byt b) (w : World) (hX : BAt w p n b) (hS : ShP w) (hCv : CvP w) : Calls Tryz.prog 15 #[.int .i64 r, .int .i64 s, .int .i64 q, .slice p n c] w (PostOw r s q (cpI n b) (Sh.sigI (sdI r) [(89, txI r s q (cpI n b))]) w) := by
  have hmk : ∀ w, (Instr.makeSlice 26 (.int .i64 64) (.int .i64 64)).run Tryz.prog w = .ok (.slice (some ⟨w.heap.size, 0, none⟩) 64 64) (w.alloc (.cells (List.replicate 64 (.int .u8 0)).toArray 5)) := fun _ => by kernel_rfl
  have hB := hS.lt
  have hst := shT_true hsh
  have hse := Lib.hid (seed16_c r (by omega) (by omega))
  have hsl := fun g c1 g2 w1 (hb1 : Below w.heap.size w w1) (hk : RowB w1 g 32 c1 (sdI r)) (hx : RowB w1 g2 64 64 (cpI n b)) => Seal_ok g 0 c1 r s q (some ⟨g2, 0, none⟩) 64 none 0 0 (cpI n b) (sdI r) hsh hk.cap (sdI_byt r) (fun j _ => cpI_byt hb j) w1 hx.bx hk.bx (hS.below hb1 hB) (hCv.below hb1 hCv.lt)
  obtain ⟨T, hT⟩ : ∃ T, T = cpI n b := ⟨_, rfl⟩
  obtain ⟨F, hF⟩ : ∃ F, F = sdI r := ⟨_, rfl⟩
  obtain ⟨G, hG⟩ : ∃ G, G = Sh.sigI F [(89, txI r s q T)] := ⟨_, rfl⟩
  rw [← hF] at hse
  rw [← hT, ← hF] at hsl
  unfold PostSt rtC at hsl
  rw [← hG] at hsl
  rw [← hT, ← hF, ← hG]
  replace hsl := Lib.hid hsl
  replace hT := Lib.hid hT
  replace hX := Lib.hid (fun w1 (hb1 : Below w.heap.size w w1) => hX.below hb1)
  clear hsh hst hS hCv hb hF hG
  go_enter Tryz.func15, Tryz.ntmps15
  go_upto_region 2 with fail
  refine at_world (fun W0 hW => ?_)
  obtain ⟨gZ, hgZ⟩ : ∃ g, g = w.heap.size := ⟨_, rfl⟩
  obtain ⟨gO, hgO⟩ : ∃ g, g = w.heap.size + 1 := ⟨_, rfl⟩
  have kZ : Blk W0 gZ 28 rtZ := by rw [hW, hgZ]; exact (Blk.new _ _ _).alloc _
  have kO : RowB W0 gO 64 64 (fun _ => 0) := by
    have h := row_zero (w.alloc (.cells #[.int .i64 0, .int .i64 0, .int .i64 0, .slice none 0 0, .slice none 0 0] 28)) 64 (by decide)
    rw [show (w.alloc (.cells #[.int .i64 0, .int .i64 0, .int .i64 0, .slice none 0 0, .slice none 0 0] 28)).heap.size = w.heap.size + 1 by simp] at h
    rw [hW, hgO]
    exact h
  have hb0 : Below w.heap.size w W0 := by rw [hW]; go_grown
  have lZ : w.heap.size ≤ gZ := by omega
  have lO : w.heap.size ≤ gO := by omega
  have nZ : gZ ≠ gO := by omega
  rw [← hgO, ← hgZ]
  clear hW hgO hgZ
  have hx0 := Lib.hid (hX.out W0 hb0)
  replace kO := Lib.hid kO
  go_wp2_with (refine wpList_cp64 rfl rfl rfl rfl hn kO.out b hx0.out ?_; intro w1 hR1 hgr)
  have kZ1 := kZ.grown hgr (fun e => nZ (Option.some.inj e))
  have hb1 : Below w.heap.size w w1 := hb0.grown hgr hb0.size (fun k e => by have : gO = k := Option.some.inj e; omega)
  rw [← hT.out] at hR1
  replace hR1 := Lib.hid hR1
  replace hb1 := Lib.hid hb1
  replace kZ1 := Lib.hid kZ1
  clear hgr kZ kO hb0 hx0 hX hT
  go_wp2_with fail
  refine (hse.out w1).mono ?_
  rintro e w2 ⟨g2, c2, rfl, _, hR2, hb⟩
  have hs := hb1.out.size
  replace hR1 := Lib.hid (hR1.out.below hb)
  replace kZ1 := Lib.hid (kZ1.out.below hb)
  replace hb1 := Lib.hid (hb1.out.trans (hb.mono hs))
  replace hR2 := Lib.hid hR2
  clear hs hse hb
  go_wp2_with fail
  refine (hsl.out g2 c2 gO w2 hb1.out hR2.out hR1.out).mono ?_
  rintro e w3 ⟨a1, e1, a2, e2, rfl, l1, l2, q1, q2, hb⟩
  have hs := hb1.out.size
  have m1 : w.heap.size ≤ a1 := by omega
  have m2 : w.heap.size ≤ a2 := by omega
  have z2 := kZ1.out.lt
  have n1 : a1 ≠ gZ := by omega
  have n2 : a2 ≠ gZ := by omega
  replace kZ1 := kZ1.out.below hb
  replace hb1 := hb1.out.trans (hb.mono hs)
  clear hs hb hR1 hR2 hsl l1 l2 z2
  go_upto_region 4 with fail
  refine at_world (fun W hW => ?_)
  have hbW : Below w3.heap.size w3 W := by rw [hW]; go_grown
  have kT : Blk W w3.heap.size 28 #[.int .i64 r, .int .i64 s, .int .i64 q, .slice (some ⟨a1, 0, none⟩) 64 e1, .slice (some ⟨a2, 0, none⟩) 64 e2] := by rw [hW]; exact Blk.new _ _ _
  clear hW
  obtain ⟨gT, hgT⟩ : ∃ g, g = w3.heap.size := ⟨_, rfl⟩
  rw [← hgT] at kT ⊢
  replace kZ1 := kZ1.below hbW
  have hs := hb1.size
  replace hb1 := hb1.trans (hbW.mono hs)
  replace q1 := q1.below hbW
  replace q2 := q2.below hbW
  have hsW := hb1.size
  clear hbW hs hgT
  obtain ⟨t0, t1, t2, t3, t4⟩ := blk5v kT
  obtain ⟨z0, z1, z2, z3, z4⟩ := blk5v (show Blk W gZ 28 #[.int .i64 0, .int .i64 0, .int .i64 0, .slice none 0 0, .slice none 0 0] from kZ1)
  have v0 := kZ1.frozen 0
  have v10 := kZ1.frozen 1
  have v11 := kZ1.frozen 2
  have v12 := kZ1.frozen 3
  have v13 := kZ1.frozen 4
  have lZ8 := kZ1.lt
  replace q1 := Lib.hid q1
  replace q2 := Lib.hid q2
  replace hb1 := Lib.hid hb1
  replace kZ1 := Lib.hid kZ1
  go_wp2_with fail
  obtain ⟨kF, hgF⟩ := setRoot W gZ (.int .i64 r) (.int .i64 s) (.int .i64 q) (.slice (some ⟨a1, 0, none⟩) 64 e1) (.slice (some ⟨a2, 0, none⟩) 64 e2) kZ1.out
  generalize ((((W.setCell ⟨gZ, 0, none⟩ (.int .i64 r)).setCell ⟨gZ, 1, none⟩ (.int .i64 s)).setCell ⟨gZ, 2, none⟩ (.int .i64 q)).setCell ⟨gZ, 3, none⟩ (.slice (some ⟨a1, 0, none⟩) 64 e1)).setCell ⟨gZ, 4, none⟩ (.slice (some ⟨a2, 0, none⟩) 64 e2) = w13 at *
  obtain ⟨u0, u1, u2, u3, u4⟩ := blk5v kF
  have hbf : Below w.heap.size w w13 := hb1.out.grown hgF hsW (fun k hk => by have : gZ = k := Option.some.inj hk; omega)
  refine bodyPost_ret (v := .agg #[.int .i64 r, .int .i64 s, .int .i64 q, .slice (some ⟨a1, 0, none⟩) 64 e1, .slice (some ⟨a2, 0, none⟩) 64 e2]) (by simp [results, Tryz.results15, go_sem, u0, u1, u2, u3, u4]) rfl ⟨a1, e1, a2, e2, rfl, m1, m2, q1.out.grown hgF (fun e => n1 (Option.some.inj e)), q2.out.grown hgF (fun e => n2 (Option.some.inj e)), hbf⟩
end Go.Proofs.YtgjffaoggjlamaaGreatDoor

namespace Go.Proofs.YtgjffaoggjlamaaGreatDoor
open Go Go.RowKit
set_option maxRecDepth 20000 in
set_option maxHeartbeats 4000000 in
theorem ck1_c (gB gC gP gk ck n dk k : Nat) (r : Int) (hk : k < n) (hr : IntKind.i64.wrap (r - 1) = (k : Int)) (r1 s1 q1 : Int) (p1 : Option Addr) (n1 c1 : Nat) (t1 : Option Addr) (m1 d1 : Nat) (w : World) (hB : w.cell? ⟨gB, 0, none⟩ = some (.slice (some ⟨gP, 0, none⟩) n dk)) (hlB : gB < w.heap.size) (hC : w.cell? ⟨gC, 0, none⟩ = some (.int .i64 r)) (hlC : gC < w.heap.size) (hP : w.cell? ⟨gP, k, none⟩ = some (.slice (some ⟨gk, 0, none⟩) 32 ck)) (hlP : gP < w.heap.size)
    (hck : ∀ w', Below w.heap.size w w' → Calls Tryz.prog 17 #[.slice (some ⟨gk, 0, none⟩) 32 ck, .agg #[.int .i64 r1, .int .i64 s1, .int .i64 q1, .slice p1 n1 c1, .slice t1 m1 d1]] w' (PostV (.int .i64 0) w')) :
    Calls Tryz.prog 104 #[.agg #[.int .i64 r1, .int .i64 s1, .int .i64 q1, .slice p1 n1 c1, .slice t1 m1 d1], .pointer (some ⟨gB, 0, none⟩), .pointer (some ⟨gC, 0, none⟩)] w (PostV (.bool true) w) := by
  replace hck := Lib.hid hck
  have j1 : (k : Int) < (n : Int) := by omega
  have j0 : (0 : Int) ≤ (k : Int) := by omega
  go_enter Tryz.func104, Tryz.ntmps104
  go_upto_region 1 with fail
  refine at_world (fun W hW => ?_)
  obtain ⟨gX, hgX⟩ : ∃ g, g = w.heap.size := ⟨_, rfl⟩
  have kX : Blk W gX 28 #[.int .i64 r1, .int .i64 s1, .int .i64 q1, .slice p1 n1 c1, .slice t1 m1 d1] := by rw [hW, hgX]; exact Blk.new _ _ _
  have hb0 : Below w.heap.size w W := by rw [hW]; go_grown
  rw [← hgX]
  clear hW hgX
  have kB := (hb0.cell (p := ⟨gB, 0, none⟩) hlB).trans hB
  have kC := (hb0.cell (p := ⟨gC, 0, none⟩) hlC).trans hC
  have kP := (hb0.cell (p := ⟨gP, k, none⟩) hlP).trans hP
  have l1 := Nat.lt_of_lt_of_le hlB hb0.size
  have l2 := Nat.lt_of_lt_of_le hlC hb0.size
  have l3 := Nat.lt_of_lt_of_le hlP hb0.size
  have hs := hb0.size
  have hSS := Lib.hid (fun w' (hb : Below W.heap.size W w') => (⟨blk5v (kX.below hb), (hb.cell (p := ⟨gB, 0, none⟩) l1).trans kB, (hb.cell (p := ⟨gC, 0, none⟩) l2).trans kC, (hb.cell (p := ⟨gP, k, none⟩) l3).trans kP⟩ : (w'.cell? ⟨gX, 0, none⟩ = some (.int .i64 r1) ∧ w'.cell? ⟨gX, 1, none⟩ = some (.int .i64 s1) ∧ w'.cell? ⟨gX, 2, none⟩ = some (.int .i64 q1) ∧ w'.cell? ⟨gX, 3, none⟩ = some (.slice p1 n1 c1) ∧ w'.cell? ⟨gX, 4, none⟩ = some (.slice t1 m1 d1)) ∧ w'.cell? ⟨gB, 0, none⟩ = some (.slice (some ⟨gP, 0, none⟩) n dk) ∧ w'.cell? ⟨gC, 0, none⟩ = some (.int .i64 r) ∧ w'.cell? ⟨gP, k, none⟩ = some (.slice (some ⟨gk, 0, none⟩) 32 ck)))
  have h0 := Below.refl W.heap.size W
  replace hb0 := Lib.hid hb0
  clear kX kB kC kP l1 l2 l3 hB hC hP hlB hlC hlP hk
  go_region_held3 (fun w' => (w'.cell? ⟨gX, 0, none⟩ = some (.int .i64 r1) ∧ w'.cell? ⟨gX, 1, none⟩ = some (.int .i64 s1) ∧ w'.cell? ⟨gX, 2, none⟩ = some (.int .i64 q1) ∧ w'.cell? ⟨gX, 3, none⟩ = some (.slice p1 n1 c1) ∧ w'.cell? ⟨gX, 4, none⟩ = some (.slice t1 m1 d1)) ∧ w'.cell? ⟨gB, 0, none⟩ = some (.slice (some ⟨gP, 0, none⟩) n dk) ∧ w'.cell? ⟨gC, 0, none⟩ = some (.int .i64 r) ∧ w'.cell? ⟨gP, k, none⟩ = some (.slice (some ⟨gk, 0, none⟩) 32 ck)) (first | exact hSS.out _ n2 | exact hSS.out _ h0 | exact hSS.out _ h0.drew) (first | (go_at_call 17; refine calls_at (fun V1 h1 => ?_); have m1 : Below W.heap.size W V1 := (by rw [h1]; go_grown); clear h1; (with_reducible refine (hck.out V1 (hb0.out.trans (m1.mono hs))).mono ?_); rintro e w2 ⟨rfl, hbb⟩; have n2 := m1.trans (hbb.mono m1.size); clear hbb m1 hck))
  all_goals
    have hP := Lib.hid (hb0.out.trans (n2.mono hs))
    clear hSS n2 h0 hb0
    go_wp2_with fail
    go_returns
    exact ⟨rfl, hP.out⟩
set_option maxRecDepth 20000 in
set_option maxHeartbeats 4000000 in
theorem allCk_c (cb gB gC : Nat) (r1 s1 q1 : Int) (p1 : Option Addr) (n1 c1 : Nat) (t1 : Option Addr) (m1 d1 : Nat) (w : World) (hB : Blk w cb 42 #[.func (.func 104) #[] #[.pointer (some ⟨gB, 0, none⟩), .pointer (some ⟨gC, 0, none⟩)]])
    (hc : ∀ w', Below w.heap.size w w' → Calls Tryz.prog 104 #[.agg #[.int .i64 r1, .int .i64 s1, .int .i64 q1, .slice p1 n1 c1, .slice t1 m1 d1], .pointer (some ⟨gB, 0, none⟩), .pointer (some ⟨gC, 0, none⟩)] w' (PostV (.bool true) w')) :
    Calls Tryz.prog 158 #[.agg #[.int .i64 r1, .int .i64 s1, .int .i64 q1, .slice p1 n1 c1, .slice t1 m1 d1], .pointer (some ⟨cb, 0, none⟩)] w (PostV (.bool false) w) := by
  replace hc := Lib.hid hc
  have x0 : w.cell? ⟨cb, 0, none⟩ = some (.func (.func 104) #[] #[.pointer (some ⟨gB, 0, none⟩), .pointer (some ⟨gC, 0, none⟩)]) := hB.cell 0
  have hl := hB.lt
  clear hB
  go_enter Tryz.func158, Tryz.ntmps158
  go_wp2_with fail
  refine calls_at (fun W0 hW => ?_)
  have hb0 : Below w.heap.size w W0 := by rw [hW]; go_grown
  clear hW
  refine (hc.out W0 hb0).mono ?_
  rintro e w2 ⟨rfl, hb2⟩
  have hb := hb0.trans (hb2.mono hb0.size)
  clear hc hb2 x0
  go_wp2
  go_returns
  exact ⟨rfl, hb⟩
set_option maxRecDepth 20000 in
set_option maxHeartbeats 8000000 in
theorem eCheck_c (gP gk ck n dk k : Nat) (hn : n ≤ 1000) (hk : k < n) (r1 s1 q1 : Int) (p1 : Option Addr) (n1 c1 : Nat) (t1 : Option Addr) (m1 d1 : Nat) (r2 s2 q2 : Int) (p2 : Option Addr) (n2 c2 : Nat) (t2 : Option Addr) (m2 d2 : Nat) (hr : r1 = (k : Int) + 1) (S1 S2 : Nat → Int) (hO : ordI r1 s1 q1 n1 m1 S1 r2 s2 q2 n2 m2 S2 < 0) (w : World) (hX1 : BX [] w p1 n1 S1) (hX2 : BX [] w p2 n2 S2) (hP : w.cell? ⟨gP, k, none⟩ = some (.slice (some ⟨gk, 0, none⟩) 32 ck)) (hlP : gP < w.heap.size)
    (hck1 : ∀ w', Below w.heap.size w w' → Calls Tryz.prog 17 #[.slice (some ⟨gk, 0, none⟩) 32 ck, .agg #[.int .i64 r1, .int .i64 s1, .int .i64 q1, .slice p1 n1 c1, .slice t1 m1 d1]] w' (PostV (.int .i64 0) w'))
    (hck2 : ∀ w', Below w.heap.size w w' → Calls Tryz.prog 17 #[.slice (some ⟨gk, 0, none⟩) 32 ck, .agg #[.int .i64 r2, .int .i64 s2, .int .i64 q2, .slice p2 n2 c2, .slice t2 m2 d2]] w' (PostV (.int .i64 0) w')) :
    Calls Tryz.prog 42 #[.slice (some ⟨gP, 0, none⟩) n dk, .agg #[.int .i64 r1, .int .i64 s1, .int .i64 q1, .slice p1 n1 c1, .slice t1 m1 d1, .int .i64 r2, .int .i64 s2, .int .i64 q2, .slice p2 n2 c2, .slice t2 m2 d2]] w (PostV (.int .i64 0) w) := by
  have hmf : ∀ (fn : Fn) (first cap : Array Value) (w : World), (Instr.makeFunc fn first cap).run Tryz.prog w = .ok (.func fn first cap) w := fun _ _ _ _ => rfl
  have hp := Lib.hid (fun w1 => pairOf_c r1 s1 q1 p1 n1 c1 t1 m1 d1 r2 s2 q2 p2 n2 c2 t2 m2 d2 w1)
  have ho := fun w1 (hb : Below w.heap.size w w1) => eorder_c r1 s1 q1 p1 n1 c1 t1 m1 d1 r2 s2 q2 p2 n2 c2 t2 m2 d2 S1 S2 w1 (hX1.below hb) (hX2.below hb)
  generalize ordI r1 s1 q1 n1 m1 S1 r2 s2 q2 n2 m2 S2 = O at *
  have hwr : IntKind.i64.wrap (r1 - 1) = (k : Int) := by rw [IntKind.wrap_i64]; omega
  have hall := fun gB gC gR w1 (hb : Below w.heap.size w w1) (hR : Blk w1 gR 28 #[.int .i64 r1, .int .i64 s1, .int .i64 q1, .slice p1 n1 c1, .slice t1 m1 d1, .int .i64 r2, .int .i64 s2, .int .i64 q2, .slice p2 n2 c2, .slice t2 m2 d2]) (hB : Blk w1 gB 23 #[.slice (some ⟨gP, 0, none⟩) n dk]) (hC : Blk w1 gC 108 #[.int .i64 r1, .int .i64 s1, .int .i64 q1, .slice p1 n1 c1, .slice t1 m1 d1, .int .i64 r2, .int .i64 s2, .int .i64 q2, .slice p2 n2 c2, .slice t2 m2 d2]) => all_c (.func 104) #[] #[.pointer (some ⟨gB, 0, none⟩), .pointer (some ⟨gC, 0, none⟩)] gR r1 s1 q1 p1 n1 c1 t1 m1 d1 r2 s2 q2 p2 n2 c2 t2 m2 d2 true true w1 hR
    (fun cb w2 hb2 hcb => allCk_c cb gB gC r1 s1 q1 p1 n1 c1 t1 m1 d1 w2 hcb (fun w3 hb3 => ck1_c gB gC gP gk ck n dk k r1 hk hwr r1 s1 q1 p1 n1 c1 t1 m1 d1 w3 (((hB.below hb2).below hb3).cell 0) ((hB.below hb2).below hb3).lt (((hC.below hb2).below hb3).cell 0) ((hC.below hb2).below hb3).lt (((hb.trans (hb2.mono hb.size)).trans (hb3.mono (Nat.le_trans hb.size hb2.size))).cell (p := ⟨gP, k, none⟩) hlP |>.trans hP) (Nat.lt_of_lt_of_le hlP (Nat.le_trans hb.size (Nat.le_trans hb2.size hb3.size))) (fun w4 hb4 => hck1 w4 (((hb.trans (hb2.mono hb.size)).trans (hb3.mono (Nat.le_trans hb.size hb2.size))).trans (hb4.mono (Nat.le_trans hb.size (Nat.le_trans hb2.size hb3.size)))))))
    (fun cb w2 hb2 hcb => allCk_c cb gB gC r2 s2 q2 p2 n2 c2 t2 m2 d2 w2 hcb (fun w3 hb3 => ck1_c gB gC gP gk ck n dk k r1 hk hwr r2 s2 q2 p2 n2 c2 t2 m2 d2 w3 (((hB.below hb2).below hb3).cell 0) ((hB.below hb2).below hb3).lt (((hC.below hb2).below hb3).cell 0) ((hC.below hb2).below hb3).lt (((hb.trans (hb2.mono hb.size)).trans (hb3.mono (Nat.le_trans hb.size hb2.size))).cell (p := ⟨gP, k, none⟩) hlP |>.trans hP) (Nat.lt_of_lt_of_le hlP (Nat.le_trans hb.size (Nat.le_trans hb2.size hb3.size))) (fun w4 hb4 => hck2 w4 (((hb.trans (hb2.mono hb.size)).trans (hb3.mono (Nat.le_trans hb.size hb2.size))).trans (hb4.mono (Nat.le_trans hb.size (Nat.le_trans hb2.size hb3.size)))))))
  have i1 : ¬ (n : Int) < r1 := by omega
  have i2 : ¬ 0 ≤ O := by omega
  replace ho := Lib.hid ho
  replace hall := Lib.hid hall
  clear hX1 hX2 hP hck1 hck2 hwr hr hk hO hn
  go_enter Tryz.func42, Tryz.ntmps42
  go_wp2_with fail
  refine calls_at (fun W0 hW => ?_)
  have hb0 : Below w.heap.size w W0 := by rw [hW]; go_grown
  obtain ⟨gB, hgB⟩ : ∃ g, g = w.heap.size := ⟨_, rfl⟩
  have kB : Blk W0 gB 23 #[.slice (some ⟨gP, 0, none⟩) n dk] := by rw [hW, hgB]; exact (Blk.new _ _ _).alloc _
  rw [← hgB]
  clear hW hgB
  refine (hp.out W0).mono ?_
  rintro e w2 ⟨rfl, hb2⟩
  replace kB := kB.below hb2
  replace hb0 := hb0.trans (hb2.mono hb0.size)
  clear hp hb2
  go_wp2_with fail
  refine calls_at (fun W1 hW => ?_)
  have hb1 : Below w2.heap.size w2 W1 := by rw [hW]; go_grown
  obtain ⟨gC, hgC⟩ : ∃ g, g = w2.heap.size := ⟨_, rfl⟩
  have kC : Blk W1 gC 108 #[.int .i64 r1, .int .i64 s1, .int .i64 q1, .slice p1 n1 c1, .slice t1 m1 d1, .int .i64 r2, .int .i64 s2, .int .i64 q2, .slice p2 n2 c2, .slice t2 m2 d2] := by rw [hW, hgC]; exact Blk.new _ _ _
  rw [← hgC]
  clear hW hgC
  replace kB := kB.below hb1
  replace hb0 := hb0.trans (hb1.mono hb0.size)
  clear hb1
  refine (ho.out W1 hb0).mono ?_
  rintro e w3 ⟨rfl, hb2⟩
  replace kB := kB.below hb2
  replace kC := kC.below hb2
  replace hb0 := hb0.trans (hb2.mono hb0.size)
  clear ho hb2
  have xB : w3.cell? ⟨gB, 0, none⟩ = some (.slice (some ⟨gP, 0, none⟩) n dk) := kB.cell 0
  obtain ⟨⟨y0, y1, y2, y3, y4⟩, y5, y6, y7, y8, y9⟩ := blk10v kC
  go_wp2_with fail
  refine calls_at (fun W2 hW => ?_)
  have hb1 : Below w3.heap.size w3 W2 := by rw [hW]; go_grown
  have kR : Blk W2 w3.heap.size 28 #[.int .i64 r1, .int .i64 s1, .int .i64 q1, .slice p1 n1 c1, .slice t1 m1 d1, .int .i64 r2, .int .i64 s2, .int .i64 q2, .slice p2 n2 c2, .slice t2 m2 d2] := by rw [hW]; exact Blk.new _ _ _
  clear hW
  refine (hall.out gB gC w3.heap.size W2 (hb0.trans (hb1.mono hb0.size)) kR (kB.below hb1) (kC.below hb1)).mono ?_
  rintro e w4 ⟨rfl, hb2⟩
  replace hb0 := (hb0.trans (hb1.mono hb0.size)).trans (hb2.mono (Nat.le_trans hb0.size hb1.size))
  clear hall hb1 hb2 kR kB kC xB y0 y1 y2 y3 y4 y5 y6 y7 y8 y9
  go_wp2_with fail
  go_returns
  exact ⟨rfl, hb0⟩
end Go.Proofs.YtgjffaoggjlamaaGreatDoor
