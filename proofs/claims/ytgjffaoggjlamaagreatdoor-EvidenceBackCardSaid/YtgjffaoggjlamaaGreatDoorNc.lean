/- root: Seal's closure. root: Seal. root: Check's closure. root: Check, over what its closure tells. root: Check's closure, a signature that does not fit. -/
import Derived.Test.YtgjffaoggjlamaaGreatDoorNb
namespace Go.Proofs.YtgjffaoggjlamaaGreatDoor
open Go Go.RowKit
theorem sixv {w : World} {g gs : Nat} {t u : TypeId} {a b c d e f : Value} (h : Blk w g t #[a, b, c, d, e]) (h2 : Blk w gs u #[f]) : w.cell? ⟨g, 0, none⟩ = some a ∧ w.cell? ⟨g, 1, none⟩ = some b ∧ w.cell? ⟨g, 2, none⟩ = some c ∧ w.cell? ⟨g, 3, none⟩ = some d ∧ w.cell? ⟨g, 4, none⟩ = some e ∧ w.cell? ⟨gs, 0, none⟩ = some f :=
  ⟨h.cell 0, h.cell 1, h.cell 2, h.cell 3, h.cell 4, h2.cell 0⟩
set_option maxRecDepth 20000 in
set_option maxHeartbeats 2000000 in
theorem seal_x1 (gr gs : Nat) (r s q : Int) (p1 : Option Addr) (n1 c1 : Nat) (p2 : Option Addr) (n2 c2 : Nat) (ps : Option Addr) (ns cs : Nat) (hn : ns ≠ 32) (w : World) (hB : Blk w gr 28 #[.int .i64 r, .int .i64 s, .int .i64 q, .slice p1 n1 c1, .slice p2 n2 c2]) (hS : Blk w gs 26 #[.slice ps ns cs]) :
    Calls Tryz.prog 84 #[.pointer (some ⟨gr, 0, none⟩), .pointer (some ⟨gs, 0, none⟩)] w fun e w' => e = .panicked (errP 2) ∧ Below w.heap.size w w' := by
  have hmf := Lib.hid (rmust_f 2)
  have hn1 : ¬ (ns : Int) = 32 := by omega
  have hn2 : ((ns : Int) == 32) = false := by simpa using hn1
  obtain ⟨x0, x1, x2, x3, x4⟩ := blk5v hB
  have y0 : w.cell? ⟨gs, 0, none⟩ = some (.slice ps ns cs) := hS.cell 0
  have hl := hB.lt
  have hl2 := hS.lt
  clear hB hS
  go_enter Tryz.func84, Tryz.ntmps84
  go_wp2_with fail
  refine calls_at (fun w1 hW => ?_)
  have hb1 : Below w.heap.size w w1 := by rw [hW]; go_grown
  clear hW
  refine (hmf.out w1).mono ?_
  rintro e w2 ⟨rfl, rfl⟩
  replace hb1 := Lib.hid hb1
  go_wp2_with fail
  exact ⟨rfl, rfl, hb1.out⟩
set_option maxRecDepth 20000 in
set_option maxHeartbeats 2000000 in
theorem seal_x2 (gr gs : Nat) (r s q : Int) (p1 : Option Addr) (n1 c1 : Nat) (p2 : Option Addr) (n2 c2 : Nat) (ps : Option Addr) (cs : Nat) (hn : shT r s q n1 = false) (w : World) (hB : Blk w gr 28 #[.int .i64 r, .int .i64 s, .int .i64 q, .slice p1 n1 c1, .slice p2 n2 c2]) (hS : Blk w gs 26 #[.slice ps 32 cs]) :
    Calls Tryz.prog 84 #[.pointer (some ⟨gr, 0, none⟩), .pointer (some ⟨gs, 0, none⟩)] w fun e w' => e = .panicked (errP 4) ∧ Below w.heap.size w w' := by
  have hmt := Lib.hid (rmust_t 2)
  have hmf := Lib.hid (rmust_f 4)
  have hsh := fun w1 => rshape_c r s q p1 n1 c1 p2 n2 c2 w1
  rw [hn] at hsh
  replace hsh := Lib.hid hsh
  obtain ⟨x0, x1, x2, x3, x4⟩ := blk5v hB
  have y0 : w.cell? ⟨gs, 0, none⟩ = some (.slice ps 32 cs) := hS.cell 0
  have hl := hB.lt
  have hl2 := hS.lt
  clear hB hS hn
  go_enter Tryz.func84, Tryz.ntmps84
  go_wp2_with fail
  refine calls_at (fun w1 hW => ?_)
  have hb1 : Below w.heap.size w w1 := by rw [hW]; go_grown
  obtain ⟨GP, hGP⟩ : ∃ G, G = w.heap.size := ⟨_, rfl⟩
  have kP : Blk w1 (GP + 1) 101 #[.int .i64 r, .int .i64 s, .int .i64 q, .slice p1 n1 c1, .slice p2 n2 c2] := by rw [hW, hGP]; exact blk_at (by simp) (Blk.new _ _ _)
  rw [← hGP]
  clear hW hGP
  refine (hmt.out w1).mono ?_
  rintro e w2 ⟨rfl, rfl⟩
  obtain ⟨t0, t1, t2, t3, t4⟩ := blk5v kP
  clear kP
  go_wp2_with fail
  refine (hsh.out w1).mono ?_
  rintro e w2 ⟨rfl, hb2⟩
  replace hb2 := Lib.hid (hb1.trans (hb2.mono hb1.size))
  clear hsh hb1
  go_wp2_with fail
  refine (hmf.out w2).mono ?_
  rintro e w3 ⟨rfl, rfl⟩
  go_wp2_with fail
  exact ⟨rfl, rfl, hb2.out⟩
set_option maxRecDepth 20000 in
set_option maxHeartbeats 4000000 in
theorem seal_c (gr gs : Nat) (r s q : Int) (p1 : Option Addr) (c1 : Nat) (p2 : Option Addr) (n2 c2 : Nat) (gk ok cs : Nat) (S F : Nat → Int) (hyes : shT r s q 64 = true) (hcs : 32 ≤ cs) (hF : Sc.Byt F) (hSr : ∀ j, j < 64 → 0 ≤ S j ∧ S j < 256) (w : World) (hB : Blk w gr 28 #[.int .i64 r, .int .i64 s, .int .i64 q, .slice p1 64 c1, .slice p2 n2 c2]) (hS : Blk w gs 26 #[.slice (some ⟨gk, ok, none⟩) 32 cs]) (hX : BX [] w p1 64 S) (hK : BX [] w (some ⟨gk, ok, none⟩) 32 F) (hSh : ShP w) (hCv : CvP w) :
    Calls Tryz.prog 84 #[.pointer (some ⟨gr, 0, none⟩), .pointer (some ⟨gs, 0, none⟩)] w fun e w' => ∃ g1 d1 g2 d2, e = .returned (.agg (rtC r s q (some ⟨g1, 0, none⟩) 64 d1 (some ⟨g2, 0, none⟩) 64 d2)) ∧ w.heap.size ≤ g1 ∧ w.heap.size ≤ g2 ∧ RowB w' g1 64 d1 S ∧ RowB w' g2 64 d2 (Sh.sigI F [(89, txI r s q S)]) ∧ Below w.heap.size w w' := by
  have hB3 := hSh.lt
  have hmt := Lib.hid (fun c => rmust_t c)
  have hsh := fun w1 => rshape_c r s q p1 64 c1 p2 n2 c2 w1
  rw [hyes] at hsh
  replace hsh := Lib.hid hsh
  obtain ⟨a1, a2, a3, a4, a5, a6, _⟩ := shT_true hyes
  obtain ⟨g0, o0, rfl, hg0, _, hcell0⟩ := hX (by decide)
  have hcl := Lib.hid (fun w1 (hb : Below w.heap.size w w1) => cloneB_c g0 o0 64 c1 S (by decide) w1 (Nat.lt_of_lt_of_le hg0 hb.size) (fun j hj => (hb.cell (p := ⟨g0, o0 + j, none⟩) hg0).trans (hcell0 j hj)))
  have htx := Lib.hid (fun g1 d1 w1 (hR : RowB w1 g1 64 d1 S) => ptext_c r s q (some ⟨g1, 0, none⟩) d1 p2 n2 c2 S hR.cap (by omega) (by omega) (by omega) w1 hR.bx)
  have htr : ∀ j, j < 89 → 0 ≤ txI r s q S j ∧ txI r s q S j < 256 := fun j _ => Sh.catI_r [(1, fun _ => 2), (24, num3 r s q), (64, S)] ⟨fun j _ => (show (0 : Int) ≤ 2 ∧ (2 : Int) < 256 by decide), fun j _ => ⟨Int.emod_nonneg _ (by decide), Int.emod_lt_of_pos _ (by decide)⟩, hSr, trivial⟩ j
  have hsg := fun g8 c8 w1 (hb : Below w.heap.size w w1) (hR : RowB w1 g8 89 c8 (txI r s q S)) => show Calls Tryz.prog 87 #[.slice (some ⟨gk, ok, none⟩) 32 cs, .slice (some ⟨w1.heap.size, 0, none⟩) 1 1] (w1.alloc (.cells #[.slice (some ⟨g8, 0, none⟩) 89 c8] 26)) (PostBs 64 (Sh.sigI F [(89, txI r s q S)]) (w1.alloc (.cells #[.slice (some ⟨g8, 0, none⟩) 89 c8] 26))) from by
    have ha : Below w1.heap.size w1 (w1.alloc (.cells #[.slice (some ⟨g8, 0, none⟩) 89 c8] 26)) := (Below.refl _ _).alloc (Nat.le_refl _) _
    have hb2 := hb.trans (ha.mono hb.size)
    exact Sign_c (some ⟨gk, ok, none⟩) cs F hcs (fun j _ => hF j) _ [.slice (some ⟨g8, 0, none⟩) 89 c8] [(89, txI r s q S)] _ (hK.below hb2) (parts_new w1 [.slice (some ⟨g8, 0, none⟩) 89 c8] (by show 0 < 1; decide) _) ⟨(hR.below ha).pv, trivial⟩ ⟨htr, trivial⟩ (by show 89 + 0 ≤ 1000000; decide) (by show 1 ≤ 10000; decide) (hSh.below hb2 hB3) (by have := hb2.size; omega) (hCv.below hb2 hCv.lt)
  obtain ⟨TX, hTX⟩ : ∃ N, N = txI r s q S := ⟨_, rfl⟩
  obtain ⟨SG, hSG⟩ : ∃ N, N = Sh.sigI F [(89, txI r s q S)] := ⟨_, rfl⟩
  rw [← hSG] at hsg ⊢
  rw [← hTX] at hsg htx
  replace hsg := Lib.hid hsg
  obtain ⟨x0, x1, x2, x3, x4⟩ := blk5v hB
  have y0 : w.cell? ⟨gs, 0, none⟩ = some (.slice (some ⟨gk, ok, none⟩) 32 cs) := hS.cell 0
  have hl := hB.lt
  have hl2 := hS.lt
  replace hS := Lib.hid hS
  clear hB hyes hX hK hSh hCv hTX hSG htr hSr hF a1 a2 a3 a4 a5 a6 hcell0
  go_enter Tryz.func84, Tryz.ntmps84
  go_wp2_with fail
  refine calls_at (fun w1 hW => ?_)
  have hb1 : Below w.heap.size w w1 := by rw [hW]; go_grown
  obtain ⟨GP, hGP⟩ : ∃ G, G = w.heap.size := ⟨_, rfl⟩
  have kP : Blk w1 (GP + 1) 101 #[.int .i64 r, .int .i64 s, .int .i64 q, .slice (some ⟨g0, o0, none⟩) 64 c1, .slice p2 n2 c2] := by rw [hW, hGP]; exact blk_at (by simp) (Blk.new _ _ _)
  have kZ : Blk w1 GP 28 rtZ := by rw [hW, hGP]; exact (Blk.new _ _ _).alloc _
  have wP : w.heap.size ≤ GP := by omega
  rw [← hGP]
  clear hW hGP
  refine ((hmt.out 2) w1).mono ?_
  rintro e w2 ⟨rfl, rfl⟩
  obtain ⟨t0, t1, t2, t3, t4⟩ := blk5v kP
  go_wp2_with fail
  refine (hsh.out w1).mono ?_
  rintro e w2 ⟨rfl, hb2⟩
  have kP2 := kP.below hb2
  have kZ2 := kZ.below hb2
  replace hb2 := hb1.trans (hb2.mono hb1.size)
  clear hsh hb1 kP kZ t0 t1 t2 t3 t4 x0 x1 x2 x3 x4 y0
  go_wp2_with fail
  refine ((hmt.out 4) w2).mono ?_
  rintro e w3 ⟨rfl, rfl⟩
  obtain ⟨t0, t1, t2, t3, t4⟩ := blk5v kP2
  clear hmt
  go_wp2_with fail
  refine (hcl.out w2 hb2).mono ?_
  rintro e w4 ⟨g1, d1, rfl, hg1, hR1, hb4⟩
  have kP4 := kP2.below hb4
  have kZ4 := kZ2.below hb4
  have lP := kP2.lt
  replace hb4 := hb2.trans (hb4.mono hb2.size)
  obtain ⟨s0, s1, s2, s3, s4⟩ := blk5v kP4
  have f3 := kP4.frozen 3
  have kP5 := Lib.hid (kP4.set_ 3 (.slice (some ⟨g1, 0, none⟩) 64 d1))
  have kZ5 := Lib.hid (kZ4.far (p := ⟨GP + 1, 3, none⟩) (by show GP ≠ GP + 1; omega) (.slice (some ⟨g1, 0, none⟩) 64 d1))
  have hR5 := Lib.hid (hR1.far (p := ⟨GP + 1, 3, none⟩) (by show g1 ≠ GP + 1; omega) (.slice (some ⟨g1, 0, none⟩) 64 d1))
  have hb5 := Lib.hid (hb4.setCell (p := ⟨GP + 1, 3, none⟩) (by show w.heap.size ≤ GP + 1; omega) (.slice (some ⟨g1, 0, none⟩) 64 d1))
  have hS5 := Lib.hid ((hS.out.below hb4).far (p := ⟨GP + 1, 3, none⟩) (by show gs ≠ GP + 1; omega) (.slice (some ⟨g1, 0, none⟩) 64 d1))
  have wg1 : w.heap.size ≤ g1 := by have := hb2.size; omega
  have ng1 : g1 ≠ GP + 1 := by omega
  have ng1' : g1 ≠ GP := by omega
  clear hcl t0 t1 t2 t3 t4 kP2 kZ2 hb2 kP4 kZ4 hR1 hb4 hg1
  go_wp2_with fail
  refine at_world (fun w5 hW => ?_)
  rw [← hW] at kP5 kZ5 hR5 hb5 hS5
  clear hW s0 s1 s2 s3 s4 f3
  replace kP5 : Blk w5 (GP + 1) 101 #[.int .i64 r, .int .i64 s, .int .i64 q, .slice (some ⟨g1, 0, none⟩) 64 d1, .slice p2 n2 c2] := kP5.out
  replace kP5 := Lib.hid kP5
  have lK : w.heap.size ≤ w5.heap.size := hb5.out.size
  have h0 : Below w5.heap.size w5 w5 := Below.refl _ _
  have nSP : gs ≠ GP + 1 := by omega
  obtain ⟨y0, y1, y2, y3, y4⟩ := blk5v kP5.out
  have yS : w5.cell? ⟨gs, 0, none⟩ = some (.slice (some ⟨gk, ok, none⟩) 32 cs) := hS5.out.cell 0
  go_wp2_with fail
  go_region_with (first | (go_at_call 68; (with_reducible refine (htx.out g1 d1 _ (hR5.out.below h0.drew)).mono ?_); rintro e w6 ⟨g8, c8, rfl, hg8, hR8, k6⟩; replace hR8 := Lib.hid hR8; replace k6 := h0.drew.trans (k6.mono h0.size); have yS6 : w6.cell? ⟨gs, 0, none⟩ = some (.slice (some ⟨gk, ok, none⟩) 32 cs) := (hS5.out.below k6).cell 0; have lS6 : gs < w6.heap.size := (hS5.out.below k6).lt) | (go_at_call 87; (with_reducible refine (hsg.out g8 c8 w6 (hb5.out.trans (k6.mono lK)) hR8.out).mono ?_); rintro e w7 ⟨g9, c9, rfl, hg9, hR9, k7⟩; replace hg9 : w6.heap.size + 1 ≤ g9 := (by simpa using hg9); have k76 := ((Below.refl w6.heap.size w6).alloc (Nat.le_refl _) _).trans (k7.mono (by simp)); replace k7 := k6.trans (k76.mono k6.size); have kP7 := kP5.out.below k7; have t4 : w7.cell? ⟨GP + 1, 4, none⟩ = some (.slice p2 n2 c2) := kP7.cell 4; have f4 := kP7.frozen 4))
  all_goals
    have lP5 := kP5.out.lt
    have lP6 := k6.size
    have n9 : g9 ≠ GP + 1 := by omega
    have n9' : g9 ≠ GP := by omega
    have kP8 := kP7.set_ 4 (.slice (some ⟨g9, 0, none⟩) 64 c9)
    have kZ8 := (kZ5.out.below k7).far (p := ⟨GP + 1, 4, none⟩) (by show GP ≠ GP + 1; omega) (.slice (some ⟨g9, 0, none⟩) 64 c9)
    have hR18 := (hR5.out.below k7).far (p := ⟨GP + 1, 4, none⟩) (by show g1 ≠ GP + 1; omega) (.slice (some ⟨g9, 0, none⟩) 64 c9)
    have hR98 := hR9.far (p := ⟨GP + 1, 4, none⟩) (by show g9 ≠ GP + 1; omega) (.slice (some ⟨g9, 0, none⟩) 64 c9)
    have hb8 := (hb5.out.trans (k7.mono lK)).setCell (p := ⟨GP + 1, 4, none⟩) (by show w.heap.size ≤ GP + 1; omega) (.slice (some ⟨g9, 0, none⟩) 64 c9)
    have wg9 : w.heap.size ≤ g9 := by omega
    generalize w7.setCell ⟨GP + 1, 4, none⟩ (.slice (some ⟨g9, 0, none⟩) 64 c9) = w8 at *
    replace kP8 : Blk w8 (GP + 1) 101 #[.int .i64 r, .int .i64 s, .int .i64 q, .slice (some ⟨g1, 0, none⟩) 64 d1, .slice (some ⟨g9, 0, none⟩) 64 c9] := kP8
    obtain ⟨t0, t1, t2, t3, t4⟩ := blk5v kP8
    replace kZ8 : Blk w8 GP 28 rtZ := kZ8
    obtain ⟨z0, z1, z2, z3, z4⟩ : w8.cell? ⟨GP, 0, none⟩ = some (.int .i64 0) ∧ w8.cell? ⟨GP, 1, none⟩ = some (.int .i64 0) ∧ w8.cell? ⟨GP, 2, none⟩ = some (.int .i64 0) ∧ w8.cell? ⟨GP, 3, none⟩ = some (.slice none 0 0) ∧ w8.cell? ⟨GP, 4, none⟩ = some (.slice none 0 0) := ⟨kZ8.cell 0, kZ8.cell 1, kZ8.cell 2, kZ8.cell 3, kZ8.cell 4⟩
    have v0 := kZ8.frozen 0
    have v1 := kZ8.frozen 1
    have v2 := kZ8.frozen 2
    have v3 := kZ8.frozen 3
    have v4 := kZ8.frozen 4
    have lZ8 := kZ8.lt
    clear hS5 kP5 kZ5 hR5 hb5 k7 k76 kP7 hR9 hR8 k6 htx hsg y0 y1 y2 y3 y4 yS f4
    replace hR18 := Lib.hid hR18
    replace hR98 := Lib.hid hR98
    replace hb8 := Lib.hid hb8
    replace kZ8 := Lib.hid kZ8
    go_wp2_with fail
    have kR := setRoot w8 GP (.int .i64 r) (.int .i64 s) (.int .i64 q) (.slice (some ⟨g1, 0, none⟩) 64 d1) (.slice (some ⟨g9, 0, none⟩) 64 c9) kZ8.out
    obtain ⟨kF, hgF⟩ := kR
    generalize ((((w8.setCell ⟨GP, 0, none⟩ (.int .i64 r)).setCell ⟨GP, 1, none⟩ (.int .i64 s)).setCell ⟨GP, 2, none⟩ (.int .i64 q)).setCell ⟨GP, 3, none⟩ (.slice (some ⟨g1, 0, none⟩) 64 d1)).setCell ⟨GP, 4, none⟩ (.slice (some ⟨g9, 0, none⟩) 64 c9) = w13 at *
    obtain ⟨u0, u1, u2, u3, u4⟩ := blk5v kF
    have hR1f := hR18.out.grown hgF (fun e => ng1' (Option.some.inj e))
    have hR2f := hR98.out.grown hgF (fun e => n9' (Option.some.inj e))
    have hbf : Below w.heap.size w w13 := hb8.out.grown hgF hb8.out.size (fun k hk => by have : GP = k := Option.some.inj hk; omega)
    refine bodyPost_ret (v := .agg (rtC r s q (some ⟨g1, 0, none⟩) 64 d1 (some ⟨g9, 0, none⟩) 64 c9)) (by simp [results, Tryz.results84, go_sem, u0, u1, u2, u3, u4, rtC]) rfl ⟨g1, d1, g9, c9, rfl, wg1, wg9, hR1f, hR2f, hbf⟩
end Go.Proofs.YtgjffaoggjlamaaGreatDoor

namespace Go.Proofs.YtgjffaoggjlamaaGreatDoor
open Go Go.RowKit
/-- no root, and an error -/
def PostSx (code : Int) (w : World) (e : Ending) (w' : World) : Prop := e = .returned (.tuple #[.agg rtZ, .int .i64 code]) ∧ Below w.heap.size w w'
/-- a root sealed -/
def PostSt (r s q : Int) (S F : Nat → Int) (w : World) (e : Ending) (w' : World) : Prop := ∃ g1 c1 g2 c2, e = .returned (.tuple #[.agg (rtC r s q (some ⟨g1, 0, none⟩) 64 c1 (some ⟨g2, 0, none⟩) 64 c2), .int .i64 0]) ∧ w.heap.size ≤ g1 ∧ w.heap.size ≤ g2 ∧ RowB w' g1 64 c1 S ∧ RowB w' g2 64 c2 (Sh.sigI F [(89, txI r s q S)]) ∧ Below w.heap.size w w'
set_option maxRecDepth 20000 in
set_option maxHeartbeats 2000000 in
theorem Seal_x (code : Int) (ps : Option Addr) (ns cs : Nat) (r s q : Int) (p1 : Option Addr) (n1 c1 : Nat) (p2 : Option Addr) (n2 c2 : Nat) (w : World) (hcl : ∀ gr gs w1, Below w.heap.size w w1 → Blk w1 gr 28 (rtC r s q p1 n1 c1 p2 n2 c2) → Blk w1 gs 26 #[.slice ps ns cs] → Calls Tryz.prog 84 #[.pointer (some ⟨gr, 0, none⟩), .pointer (some ⟨gs, 0, none⟩)] w1 fun e w' => e = .panicked (errP code) ∧ Below w1.heap.size w1 w') :
    Calls Tryz.prog 30 #[.slice ps ns cs, .agg (rtC r s q p1 n1 c1 p2 n2 c2)] w (PostSx code w) := by
  have hmf : ∀ (fn : Fn) (first cap : Array Value) (w : World), (Instr.makeFunc fn first cap).run Tryz.prog w = .ok (.func fn first cap) w := fun _ _ _ _ => rfl
  have ht := Lib.hid (fun gr gs w1 (hb0 : Below w.heap.size w w1) (hB : Blk w1 gr 28 (rtC r s q p1 n1 c1 p2 n2 c2)) (hS : Blk w1 gs 26 #[.slice ps ns cs]) => rtSeal_err gr gs code w1 (fun w2 hb => hcl gr gs w2 (hb0.trans (hb.mono hb0.size)) (hB.below hb) (hS.below hb)))
  clear hcl
  unfold rtC at ht ⊢
  go_enter Tryz.func30, Tryz.ntmps30
  go_wp2_with fail
  refine calls_at (fun w1 hW => ?_)
  have hb1 : Below w.heap.size w w1 := by rw [hW]; go_grown
  obtain ⟨GZ, hGZ⟩ : ∃ G, G = w.heap.size := ⟨_, rfl⟩
  have kZ : Blk w1 (GZ + 1 + 1) 28 rtZ := by rw [hW, hGZ]; exact blk_at (by simp) (Blk.new _ _ _)
  have kB : Blk w1 (GZ + 1) 28 #[.int .i64 r, .int .i64 s, .int .i64 q, .slice p1 n1 c1, .slice p2 n2 c2] := by rw [hW, hGZ]; exact blk_at (by simp) ((Blk.new _ _ _).alloc _)
  have kS : Blk w1 GZ 26 #[.slice ps ns cs] := by rw [hW, hGZ]; exact ((Blk.new _ _ _).alloc _).alloc _
  have wZ : w.heap.size ≤ GZ := by omega
  rw [← hGZ]
  clear hW hGZ
  refine (ht.out (GZ + 1) GZ w1 hb1 kB kS).mono ?_
  rintro e w2 ⟨rfl, hb2⟩
  have kZ2 := kZ.below hb2
  replace hb2 := hb1.trans (hb2.mono hb1.size)
  obtain ⟨z0, z1, z2, z3, z4⟩ : w2.cell? ⟨GZ + 1 + 1, 0, none⟩ = some (.int .i64 0) ∧ w2.cell? ⟨GZ + 1 + 1, 1, none⟩ = some (.int .i64 0) ∧ w2.cell? ⟨GZ + 1 + 1, 2, none⟩ = some (.int .i64 0) ∧ w2.cell? ⟨GZ + 1 + 1, 3, none⟩ = some (.slice none 0 0) ∧ w2.cell? ⟨GZ + 1 + 1, 4, none⟩ = some (.slice none 0 0) := ⟨kZ2.cell 0, kZ2.cell 1, kZ2.cell 2, kZ2.cell 3, kZ2.cell 4⟩
  have v0 := kZ2.frozen 0
  have v1 := kZ2.frozen 1
  have v2 := kZ2.frozen 2
  have v3 := kZ2.frozen 3
  have v4 := kZ2.frozen 4
  unfold rtZ
  replace kZ2 := Lib.hid kZ2
  replace hb2 := Lib.hid hb2
  clear ht hb1 kZ kB kS
  go_wp2_with fail
  obtain ⟨kF, hgF⟩ := setRoot w2 (GZ + 1 + 1) (.int .i64 0) (.int .i64 0) (.int .i64 0) (.slice none 0 0) (.slice none 0 0) kZ2.out
  generalize ((((w2.setCell ⟨GZ + 1 + 1, 0, none⟩ (.int .i64 0)).setCell ⟨GZ + 1 + 1, 1, none⟩ (.int .i64 0)).setCell ⟨GZ + 1 + 1, 2, none⟩ (.int .i64 0)).setCell ⟨GZ + 1 + 1, 3, none⟩ (.slice none 0 0)).setCell ⟨GZ + 1 + 1, 4, none⟩ (.slice none 0 0) = w13 at *
  obtain ⟨u0, u1, u2, u3, u4⟩ := blk5v kF
  have hbf : Below w.heap.size w w13 := hb2.out.grown hgF hb2.out.size (fun k hk => by have : GZ + 1 + 1 = k := Option.some.inj hk; omega)
  exact bodyPost_ret (v := .tuple #[.agg rtZ, .int .i64 code]) (by simp [results, Tryz.results30, go_sem, u0, u1, u2, u3, u4, rtZ]) rfl ⟨rfl, hbf⟩
set_option maxRecDepth 20000 in
set_option maxHeartbeats 2000000 in
theorem Seal_ok (gk ok cs : Nat) (r s q : Int) (p1 : Option Addr) (c1 : Nat) (p2 : Option Addr) (n2 c2 : Nat) (S F : Nat → Int) (hyes : shT r s q 64 = true) (hcs : 32 ≤ cs) (hF : Sc.Byt F) (hSr : ∀ j, j < 64 → 0 ≤ S j ∧ S j < 256) (w : World) (hX : BX [] w p1 64 S) (hK : BX [] w (some ⟨gk, ok, none⟩) 32 F) (hSh : ShP w) (hCv : CvP w) :
    Calls Tryz.prog 30 #[.slice (some ⟨gk, ok, none⟩) 32 cs, .agg (rtC r s q p1 64 c1 p2 n2 c2)] w (PostSt r s q S F w) := by
  have hmf : ∀ (fn : Fn) (first cap : Array Value) (w : World), (Instr.makeFunc fn first cap).run Tryz.prog w = .ok (.func fn first cap) w := fun _ _ _ _ => rfl
  have lSh := hSh.lt
  have lCv := hCv.lt
  obtain ⟨SG, hSG⟩ : ∃ N, N = Sh.sigI F [(89, txI r s q S)] := ⟨_, rfl⟩
  have ht := fun gr gs w1 (hb0 : Below w.heap.size w w1) (hB : Blk w1 gr 28 (rtC r s q p1 64 c1 p2 n2 c2)) (hS : Blk w1 gs 26 #[.slice (some ⟨gk, ok, none⟩) 32 cs]) => rtSeal_ok gr gs (fun w1 a x y p1 n1 c1 p2 n2 c2 w2 => ∃ g1 g2, a = r ∧ x = s ∧ y = q ∧ p1 = some ⟨g1, 0, none⟩ ∧ n1 = 64 ∧ p2 = some ⟨g2, 0, none⟩ ∧ n2 = 64 ∧ w1.heap.size ≤ g1 ∧ w1.heap.size ≤ g2 ∧ RowB w2 g1 64 c1 S ∧ RowB w2 g2 64 c2 SG) w1 (fun w2 hb => have hbb := hb0.trans (hb.mono hb0.size); (seal_c gr gs r s q p1 c1 p2 n2 c2 gk ok cs S F hyes hcs hF hSr w2 (hB.below hb) (hS.below hb) (hX.below hbb) (hK.below hbb) (hSh.below hbb lSh) (hCv.below hbb lCv)).mono fun e w' k => by
    obtain ⟨g1, d1, g2, d2, he, k1, k2, k3, k4, k5⟩ := k
    rw [← hSG] at k4
    exact ⟨_, _, _, _, _, _, _, _, _, he, ⟨g1, g2, rfl, rfl, rfl, rfl, rfl, rfl, rfl, k1, k2, k3, k4⟩, k5⟩)
  unfold PostSt
  rw [← hSG]
  unfold rtC at ht ⊢
  replace ht := Lib.hid ht
  clear hX hK hSh hCv hyes hF hSr hSG lSh lCv
  go_enter Tryz.func30, Tryz.ntmps30
  go_wp2_with fail
  refine calls_at (fun w1 hW => ?_)
  have hb1 : Below w.heap.size w w1 := by rw [hW]; go_grown
  obtain ⟨GZ, hGZ⟩ : ∃ G, G = w.heap.size := ⟨_, rfl⟩
  have kZ : Blk w1 (GZ + 1 + 1) 28 rtZ := by rw [hW, hGZ]; exact blk_at (by simp) (Blk.new _ _ _)
  have kB : Blk w1 (GZ + 1) 28 #[.int .i64 r, .int .i64 s, .int .i64 q, .slice p1 64 c1, .slice p2 n2 c2] := by rw [hW, hGZ]; exact blk_at (by simp) ((Blk.new _ _ _).alloc _)
  have kS : Blk w1 GZ 26 #[.slice (some ⟨gk, ok, none⟩) 32 cs] := by rw [hW, hGZ]; exact ((Blk.new _ _ _).alloc _).alloc _
  have wZ : w.heap.size ≤ GZ := by omega
  rw [← hGZ]
  clear hW hGZ
  have lZ := kZ.lt
  refine (ht.out (GZ + 1) GZ w1 hb1 kB kS).mono ?_
  rintro e w5 ⟨a, x, y, p1, n1, c1, p2, n2, c2, w2, w3, w4, GX, rfl, ⟨g1, g2, rfl, rfl, rfl, rfl, rfl, rfl, rfl, k1, k2, k3, k4⟩, hb2, lo, l1, l2, hg3, hg4⟩
  have hs1 := hb1.size
  have hb5 : Below w1.heap.size w1 w5 := (hb2.grown hg3 (by omega) (fun k hk => by have : GX = k := Option.some.inj hk; omega)).grown hg4 (by have := hg3.size; omega) (fun k hk => by have : GX + 1 = k := Option.some.inj hk; omega)
  have kZ5 := kZ.below hb5
  have r1 := (k3.grown hg3 (fun e => by have := Option.some.inj e; omega)).grown hg4 (fun e => by have := Option.some.inj e; omega)
  have r2 := (k4.grown hg3 (fun e => by have := Option.some.inj e; omega)).grown hg4 (fun e => by have := Option.some.inj e; omega)
  have hb6 := hb1.trans (hb5.mono hs1)
  obtain ⟨z0, z1, z2, z3, z4⟩ : w5.cell? ⟨GZ + 1 + 1, 0, none⟩ = some (.int .i64 0) ∧ w5.cell? ⟨GZ + 1 + 1, 1, none⟩ = some (.int .i64 0) ∧ w5.cell? ⟨GZ + 1 + 1, 2, none⟩ = some (.int .i64 0) ∧ w5.cell? ⟨GZ + 1 + 1, 3, none⟩ = some (.slice none 0 0) ∧ w5.cell? ⟨GZ + 1 + 1, 4, none⟩ = some (.slice none 0 0) := ⟨kZ5.cell 0, kZ5.cell 1, kZ5.cell 2, kZ5.cell 3, kZ5.cell 4⟩
  have v0 := kZ5.frozen 0
  have v1 := kZ5.frozen 1
  have v2 := kZ5.frozen 2
  have v3 := kZ5.frozen 3
  have v4 := kZ5.frozen 4
  have ng1 : g1 ≠ GZ + 1 + 1 := by omega
  have ng2 : g2 ≠ GZ + 1 + 1 := by omega
  have wg1 : w.heap.size ≤ g1 := by omega
  have wg2 : w.heap.size ≤ g2 := by omega
  replace kZ5 := Lib.hid kZ5
  replace hb6 := Lib.hid hb6
  replace r1 := Lib.hid r1
  replace r2 := Lib.hid r2
  clear ht hb1 kZ kB kS hb5 k3 k4 hb2 hg3 hg4 k1 k2 l1 l2 lo
  go_wp2_with fail
  obtain ⟨kF, hgF⟩ := setRoot w5 (GZ + 1 + 1) (.int .i64 a) (.int .i64 x) (.int .i64 y) (.slice (some ⟨g1, 0, none⟩) 64 c1) (.slice (some ⟨g2, 0, none⟩) 64 c2) kZ5.out
  generalize ((((w5.setCell ⟨GZ + 1 + 1, 0, none⟩ (.int .i64 a)).setCell ⟨GZ + 1 + 1, 1, none⟩ (.int .i64 x)).setCell ⟨GZ + 1 + 1, 2, none⟩ (.int .i64 y)).setCell ⟨GZ + 1 + 1, 3, none⟩ (.slice (some ⟨g1, 0, none⟩) 64 c1)).setCell ⟨GZ + 1 + 1, 4, none⟩ (.slice (some ⟨g2, 0, none⟩) 64 c2) = w13 at *
  obtain ⟨u0, u1, u2, u3, u4⟩ := blk5v kF
  have hbf : Below w.heap.size w w13 := hb6.out.grown hgF hb6.out.size (fun k hk => by have : GZ + 1 + 1 = k := Option.some.inj hk; omega)
  exact bodyPost_ret (v := .tuple #[.agg (rtC a x y (some ⟨g1, 0, none⟩) 64 c1 (some ⟨g2, 0, none⟩) 64 c2), .int .i64 0]) (by simp [results, Tryz.results30, go_sem, u0, u1, u2, u3, u4, rtC]) rfl ⟨g1, c1, g2, c2, rfl, wg1, wg2, r1.out.grown hgF (fun e => ng1 (Option.some.inj e)), r2.out.grown hgF (fun e => ng2 (Option.some.inj e)), hbf⟩
end Go.Proofs.YtgjffaoggjlamaaGreatDoor

namespace Go.Proofs.YtgjffaoggjlamaaGreatDoor
open Go Go.RowKit
set_option maxRecDepth 20000 in
set_option maxHeartbeats 2000000 in
theorem check_x1 (gr gk : Nat) (r s q : Int) (p1 : Option Addr) (n1 c1 : Nat) (p2 : Option Addr) (n2 c2 : Nat) (hn : (shT r s q n1 && decide (n2 = 64)) = false) (w : World) (hB : Blk w gr 28 #[.int .i64 r, .int .i64 s, .int .i64 q, .slice p1 n1 c1, .slice p2 n2 c2]) :
    Calls Tryz.prog 65 #[.pointer (some ⟨gr, 0, none⟩), .pointer (some ⟨gk, 0, none⟩)] w fun e w' => e = .panicked (errP 4) ∧ Below w.heap.size w w' := by
  have hmf := Lib.hid (rmust_f 4)
  have hsh := fun w1 => rright_c r s q p1 n1 c1 p2 n2 c2 w1
  rw [hn] at hsh
  replace hsh := Lib.hid hsh
  obtain ⟨x0, x1, x2, x3, x4⟩ := blk5v hB
  have hl := hB.lt
  clear hB hn
  go_enter Tryz.func65, Tryz.ntmps65
  go_wp2_with fail
  refine calls_at (fun w1 hW => ?_)
  have hb1 : Below w.heap.size w w1 := by rw [hW]; go_grown
  clear hW
  refine (hsh.out w1).mono ?_
  rintro e w2 ⟨rfl, hb2⟩
  replace hb2 := Lib.hid (hb1.trans (hb2.mono hb1.size))
  clear hsh hb1
  go_wp2_with fail
  refine (hmf.out w2).mono ?_
  rintro e w3 ⟨rfl, rfl⟩
  go_wp2_with fail
  exact ⟨rfl, rfl, hb2.out⟩
set_option maxRecDepth 20000 in
set_option maxHeartbeats 4000000 in
theorem check_c (gr gk : Nat) (r s q : Int) (p1 : Option Addr) (c1 : Nat) (p2 : Option Addr) (c2 : Nat) (pk : Option Addr) (nk ck : Nat) (S : Nat → Int) (hyes : shT r s q 64 = true) (hc1 : 64 ≤ c1) (w : World) (hB : Blk w gr 28 #[.int .i64 r, .int .i64 s, .int .i64 q, .slice p1 64 c1, .slice p2 64 c2]) (hK : Blk w gk 26 #[.slice pk nk ck]) (hX : BX [] w p1 64 S) (hv : ∀ g8 c8 w1, Below w.heap.size w w1 → RowB w1 g8 89 c8 (txI r s q S) → Calls Tryz.prog 57 #[.slice pk nk ck, .slice p2 64 c2, .slice (some ⟨w1.heap.size, 0, none⟩) 1 1] (w1.alloc (.cells #[.slice (some ⟨g8, 0, none⟩) 89 c8] 26)) (PostV (.bool true) (w1.alloc (.cells #[.slice (some ⟨g8, 0, none⟩) 89 c8] 26)))) :
    Calls Tryz.prog 65 #[.pointer (some ⟨gr, 0, none⟩), .pointer (some ⟨gk, 0, none⟩)] w fun e w' => ∃ b, e = .returned (.bool b) ∧ b = true ∧ Below w.heap.size w w' := by
  have hmt := Lib.hid (rmust_t 4)
  have hmv := Lib.hid (rmust_t 20)
  have hsh := fun w1 => rright_c r s q p1 64 c1 p2 64 c2 w1
  rw [hyes] at hsh
  replace hsh := Lib.hid hsh
  obtain ⟨a1, a2, a3, a4, a5, a6, _⟩ := shT_true hyes
  have htx := fun w1 (hb : Below w.heap.size w w1) => ptext_c r s q p1 c1 p2 64 c2 S hc1 (by omega) (by omega) (by omega) w1 (hX.below hb)
  obtain ⟨TX, hTX⟩ : ∃ N, N = txI r s q S := ⟨_, rfl⟩
  rw [← hTX] at hv htx
  replace htx := Lib.hid htx
  replace hv := Lib.hid hv
  obtain ⟨x0, x1, x2, x3, x4⟩ := blk5v hB
  have hl := hB.lt
  have hl2 := hK.lt
  replace hK := Lib.hid hK
  clear hB hyes hX hTX a1 a2 a3 a4 a5 a6 hc1
  go_enter Tryz.func65, Tryz.ntmps65
  go_wp2_with fail
  refine calls_at (fun w1 hW => ?_)
  have hb1 : Below w.heap.size w w1 := by rw [hW]; go_grown
  obtain ⟨GP, hGP⟩ : ∃ G, G = w.heap.size := ⟨_, rfl⟩
  have kP : Blk w1 GP 101 #[.int .i64 r, .int .i64 s, .int .i64 q, .slice p1 64 c1, .slice p2 64 c2] := by rw [hW, hGP]; exact Blk.new _ _ _
  rw [← hGP]
  clear hW hGP
  refine (hsh.out w1).mono ?_
  rintro e w2 ⟨rfl, hb2⟩
  have kP2 := Lib.hid (kP.below hb2)
  replace hb2 := Lib.hid (hb1.trans (hb2.mono hb1.size))
  clear hsh hb1 kP x0 x1 x2 x3 x4
  go_wp2_with fail
  refine (hmt.out w2).mono ?_
  rintro e w3 ⟨rfl, rfl⟩
  have kK := Lib.hid (hK.out.below hb2.out)
  have lK : w.heap.size ≤ w2.heap.size := hb2.out.size
  have h0 : Below w2.heap.size w2 w2 := Below.refl _ _
  obtain ⟨y0, y1, y2, y3, y4⟩ := blk5v kP2.out
  have yS : w2.cell? ⟨gk, 0, none⟩ = some (.slice pk nk ck) := kK.out.cell 0
  clear hmt
  go_wp2_with fail
  go_region_held3 (fun w' => w'.cell? ⟨GP, 0, none⟩ = some (.int .i64 r) ∧ w'.cell? ⟨GP, 1, none⟩ = some (.int .i64 s) ∧ w'.cell? ⟨GP, 2, none⟩ = some (.int .i64 q) ∧ w'.cell? ⟨GP, 3, none⟩ = some (.slice p1 64 c1) ∧ w'.cell? ⟨GP, 4, none⟩ = some (.slice p2 64 c2) ∧ w'.cell? ⟨gk, 0, none⟩ = some (.slice pk nk ck)) (first | exact sixv (kP2.out.below k7) (kK.out.below k7) | exact sixv ((kP2.out.below k6).alloc _) ((kK.out.below k6).alloc _) | exact sixv (kP2.out.below k6) (kK.out.below k6) | exact sixv (kP2.out.below h0.drew) (kK.out.below h0.drew) | exact sixv kP2.out kK.out) (first | (go_at_call 68; (with_reducible refine (htx.out _ (hb2.out.trans (h0.drew.mono lK))).mono ?_); rintro e w6 ⟨g8, c8, rfl, hg8, hR8, k6⟩; replace hR8 := Lib.hid hR8; replace k6 := h0.drew.trans (k6.mono h0.size)) | (go_at_call 57; (with_reducible refine (hv.out g8 c8 w6 (hb2.out.trans (k6.mono lK)) hR8.out).mono ?_); rintro e w7 ⟨rfl, k7⟩; have k76 := ((Below.refl w6.heap.size w6).alloc (Nat.le_refl _) _).trans (k7.mono (by simp)); replace k7 := k6.trans (k76.mono k6.size)) | (go_at_call 66; (with_reducible refine (hmv.out w7).mono ?_); rintro e w8 ⟨rfl, rfl⟩; have hb8 := Lib.hid (hb2.out.trans (k7.mono lK))))
  all_goals
    go_wp2_with fail
    go_returns
    exact ⟨true, rfl, rfl, hb8.out⟩
end Go.Proofs.YtgjffaoggjlamaaGreatDoor

namespace Go.Proofs.YtgjffaoggjlamaaGreatDoor
open Go Go.RowKit
set_option maxRecDepth 20000 in
set_option maxHeartbeats 2000000 in
theorem Check_ok (pk : Option Addr) (nk ck : Nat) (r s q : Int) (p1 : Option Addr) (n1 c1 : Nat) (p2 : Option Addr) (n2 c2 : Nat) (w : World) (hcl : ∀ gr gk w1, Below w.heap.size w w1 → Blk w1 gr 28 #[.int .i64 r, .int .i64 s, .int .i64 q, .slice p1 n1 c1, .slice p2 n2 c2] → Blk w1 gk 26 #[.slice pk nk ck] → Calls Tryz.prog 65 #[.pointer (some ⟨gr, 0, none⟩), .pointer (some ⟨gk, 0, none⟩)] w1 fun e w' => ∃ b, e = .returned (.bool b) ∧ b = true ∧ Below w1.heap.size w1 w') :
    Calls Tryz.prog 17 #[.slice pk nk ck, .agg #[.int .i64 r, .int .i64 s, .int .i64 q, .slice p1 n1 c1, .slice p2 n2 c2]] w (PostV (.int .i64 0) w) := by
  have hmf : ∀ (fn : Fn) (first cap : Array Value) (w : World), (Instr.makeFunc fn first cap).run Tryz.prog w = .ok (.func fn first cap) w := fun _ _ _ _ => rfl
  have ht := Lib.hid (fun gr gk w1 (hb0 : Below w.heap.size w w1) (hB : Blk w1 gr 28 #[.int .i64 r, .int .i64 s, .int .i64 q, .slice p1 n1 c1, .slice p2 n2 c2]) (hS : Blk w1 gk 26 #[.slice pk nk ck]) => rtCheck_ok gr gk (fun _ _ _ => True) w1 (fun w2 hb => (hcl gr gk w2 (hb0.trans (hb.mono hb0.size)) (hB.below hb) (hS.below hb)).mono fun e w' ⟨b, he, _, hb⟩ => ⟨b, he, trivial, hb⟩))
  clear hcl
  go_enter Tryz.func17, Tryz.ntmps17
  go_wp2_with fail
  refine calls_at (fun w1 hW => ?_)
  have hb1 : Below w.heap.size w w1 := by rw [hW]; go_grown
  refine (ht.out (w.heap.size + 1) w.heap.size w1 hb1 (by rw [hW]; exact blk_at (by simp) (Blk.new _ _ _)) (by rw [hW]; exact (Blk.new _ _ _).alloc _)).mono ?_
  clear hW
  rintro e w5 ⟨b, w2, w3, GX, rfl, _, hb2, lo, l1, l2, rfl⟩
  have hs := hb1.size
  have hP := Lib.hid (((hb1.trans (hb2.mono hs)).setCell (p := ⟨GX, 0, none⟩) (by show w.heap.size ≤ GX; omega) (.bool b)).setCell (p := ⟨GX + 1, 0, none⟩) (by show w.heap.size ≤ GX + 1; omega) (.int .i64 0))
  obtain ⟨W, hW⟩ : ∃ W, W = (w3.setCell ⟨GX, 0, none⟩ (.bool b)).setCell ⟨GX + 1, 0, none⟩ (.int .i64 0) := ⟨_, rfl⟩
  rw [← hW] at hP ⊢
  clear hW hb2 ht hb1 lo l1 l2 hs
  go_wp2_with fail
  go_returns
  exact ⟨rfl, hP.out⟩
set_option maxRecDepth 20000 in
set_option maxHeartbeats 2000000 in
theorem Check_err (code : Int) (pk : Option Addr) (nk ck : Nat) (r s q : Int) (p1 : Option Addr) (n1 c1 : Nat) (p2 : Option Addr) (n2 c2 : Nat) (w : World) (hcl : ∀ gr gk w1, Below w.heap.size w w1 → Blk w1 gr 28 #[.int .i64 r, .int .i64 s, .int .i64 q, .slice p1 n1 c1, .slice p2 n2 c2] → Blk w1 gk 26 #[.slice pk nk ck] → Calls Tryz.prog 65 #[.pointer (some ⟨gr, 0, none⟩), .pointer (some ⟨gk, 0, none⟩)] w1 fun e w' => e = .panicked (errP code) ∧ Below w1.heap.size w1 w') :
    Calls Tryz.prog 17 #[.slice pk nk ck, .agg #[.int .i64 r, .int .i64 s, .int .i64 q, .slice p1 n1 c1, .slice p2 n2 c2]] w (PostV (.int .i64 code) w) := by
  have hmf : ∀ (fn : Fn) (first cap : Array Value) (w : World), (Instr.makeFunc fn first cap).run Tryz.prog w = .ok (.func fn first cap) w := fun _ _ _ _ => rfl
  have ht := Lib.hid (fun gr gk w1 (hb0 : Below w.heap.size w w1) (hB : Blk w1 gr 28 #[.int .i64 r, .int .i64 s, .int .i64 q, .slice p1 n1 c1, .slice p2 n2 c2]) (hS : Blk w1 gk 26 #[.slice pk nk ck]) => rtCheck_err gr gk code w1 (fun w2 hb => hcl gr gk w2 (hb0.trans (hb.mono hb0.size)) (hB.below hb) (hS.below hb)))
  clear hcl
  go_enter Tryz.func17, Tryz.ntmps17
  go_wp2_with fail
  refine calls_at (fun w1 hW => ?_)
  have hb1 : Below w.heap.size w w1 := by rw [hW]; go_grown
  refine (ht.out (w.heap.size + 1) w.heap.size w1 hb1 (by rw [hW]; exact blk_at (by simp) (Blk.new _ _ _)) (by rw [hW]; exact (Blk.new _ _ _).alloc _)).mono ?_
  clear hW
  rintro e W ⟨rfl, hb2⟩
  have hP := Lib.hid (hb1.trans (hb2.mono hb1.size))
  clear hb2 ht hb1
  go_wp2_with fail
  go_returns
  exact ⟨rfl, hP.out⟩
end Go.Proofs.YtgjffaoggjlamaaGreatDoor

namespace Go.Proofs.YtgjffaoggjlamaaGreatDoor
open Go Go.RowKit
/-- a way that has ended: what would follow is asked under a premise that fails -/
theorem two_ways {G : Prop} {K Body : Act → World → Prop} (_hK : ∀ a w, Body a w → K a w) (a : Act) (w : World) (hg : G) (_h : False → K a w) : G := hg
set_option maxRecDepth 20000 in
set_option maxHeartbeats 16000000 in
theorem check_x2 (gr gk : Nat) (r s q : Int) (p1 : Option Addr) (c1 : Nat) (p2 : Option Addr) (c2 : Nat) (pk : Option Addr) (nk ck : Nat) (S : Nat → Int) (hyes : shT r s q 64 = true) (hc1 : 64 ≤ c1) (w : World) (hB : Blk w gr 28 #[.int .i64 r, .int .i64 s, .int .i64 q, .slice p1 64 c1, .slice p2 64 c2]) (hK : Blk w gk 26 #[.slice pk nk ck]) (hX : BX [] w p1 64 S) (hv : ∀ g8 c8 w1, Below w.heap.size w w1 → RowB w1 g8 89 c8 (txI r s q S) → Calls Tryz.prog 57 #[.slice pk nk ck, .slice p2 64 c2, .slice (some ⟨w1.heap.size, 0, none⟩) 1 1] (w1.alloc (.cells #[.slice (some ⟨g8, 0, none⟩) 89 c8] 26)) (PostV (.bool false) (w1.alloc (.cells #[.slice (some ⟨g8, 0, none⟩) 89 c8] 26)))) :
    Calls Tryz.prog 65 #[.pointer (some ⟨gr, 0, none⟩), .pointer (some ⟨gk, 0, none⟩)] w fun e w' => e = .panicked (errP 20) ∧ Below w.heap.size w w' := by
  have hmt := Lib.hid (rmust_t 4)
  have hmv := Lib.hid (rmust_f 20)
  have hsh := fun w1 => rright_c r s q p1 64 c1 p2 64 c2 w1
  rw [hyes] at hsh
  replace hsh := Lib.hid hsh
  obtain ⟨a1, a2, a3, a4, a5, a6, _⟩ := shT_true hyes
  have htx := fun w1 (hb : Below w.heap.size w w1) => ptext_c r s q p1 c1 p2 64 c2 S hc1 (by omega) (by omega) (by omega) w1 (hX.below hb)
  obtain ⟨TX, hTX⟩ : ∃ N, N = txI r s q S := ⟨_, rfl⟩
  rw [← hTX] at hv htx
  replace htx := Lib.hid htx
  replace hv := Lib.hid hv
  obtain ⟨x0, x1, x2, x3, x4⟩ := blk5v hB
  have hl := hB.lt
  have hl2 := hK.lt
  replace hK := Lib.hid hK
  clear hB hyes hX hTX a1 a2 a3 a4 a5 a6 hc1
  go_enter Tryz.func65, Tryz.ntmps65
  go_wp2_with fail
  refine calls_at (fun w1 hW => ?_)
  have hb1 : Below w.heap.size w w1 := by rw [hW]; go_grown
  obtain ⟨GP, hGP⟩ : ∃ G, G = w.heap.size := ⟨_, rfl⟩
  have kP : Blk w1 GP 101 #[.int .i64 r, .int .i64 s, .int .i64 q, .slice p1 64 c1, .slice p2 64 c2] := by rw [hW, hGP]; exact Blk.new _ _ _
  rw [← hGP]
  clear hW hGP
  refine (hsh.out w1).mono ?_
  rintro e w2 ⟨rfl, hb2⟩
  have kP2 := Lib.hid (kP.below hb2)
  replace hb2 := Lib.hid (hb1.trans (hb2.mono hb1.size))
  clear hsh hb1 kP x0 x1 x2 x3 x4
  go_wp2_with fail
  refine (hmt.out w2).mono ?_
  rintro e w3 ⟨rfl, rfl⟩
  have kK := Lib.hid (hK.out.below hb2.out)
  have lK : w.heap.size ≤ w2.heap.size := hb2.out.size
  have h0 : Below w2.heap.size w2 w2 := Below.refl _ _
  obtain ⟨y0, y1, y2, y3, y4⟩ := blk5v kP2.out
  have yS : w2.cell? ⟨gk, 0, none⟩ = some (.slice pk nk ck) := kK.out.cell 0
  clear hmt
  go_wp2_with fail
  have lS0 := kK.out.lt
  have lS1 := kP2.out.lt
  go_region_with (first | (go_at_call 68; (with_reducible refine (htx.out _ (hb2.out.trans (h0.drew.mono lK))).mono ?_); rintro e w6 ⟨g8, c8, rfl, hg8, hR8, k6⟩; replace hR8 := Lib.hid hR8; replace k6 := h0.drew.trans (k6.mono h0.size); obtain ⟨q0, q1, q2, q3, q4, q5⟩ := sixv (kP2.out.below k6) (kK.out.below k6); have lS6 : gk < w6.heap.size := (kK.out.below k6).lt; have lS7 : GP < w6.heap.size := (kP2.out.below k6).lt) | (go_at_call 57; (with_reducible refine (hv.out g8 c8 w6 (hb2.out.trans (k6.mono lK)) hR8.out).mono ?_); rintro e w7 ⟨rfl, k7⟩; have k76 := ((Below.refl w6.heap.size w6).alloc (Nat.le_refl _) _).trans (k7.mono (by simp)); replace k7 := k6.trans (k76.mono k6.size)) | (go_at_call 66; (with_reducible refine (hmv.out w7).mono ?_); rintro e w8 ⟨rfl, rfl⟩; have hb8 := hb2.out.trans (k7.mono lK); refine two_ways (by assumption) ⟨#[], []⟩ w7 ⟨rfl, rfl, hb8⟩ (fun hF => ?_)))
  all_goals exact False.elim (by assumption)
end Go.Proofs.YtgjffaoggjlamaaGreatDoor
