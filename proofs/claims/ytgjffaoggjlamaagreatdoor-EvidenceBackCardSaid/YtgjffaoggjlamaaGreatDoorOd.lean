/- law16: awake. law16: rows of signed roots; SameEvidence of nothing. An argument that is a row of numbers, or of rows of bytes, opened. -/
import Derived.Test.YtgjffaoggjlamaaGreatDoorOc
import Derived.Test.YtgjffaoggjlamaaGreatDoorOa
import Derived.Deep.Cut
import Derived.Deep.RegionHeld3
import Derived.Laws.OwnMore
import Derived.Deep.Slices
namespace Go.Proofs.YtgjffaoggjlamaaGreatDoor
open Go Go.RowKit
theorem blk1_bat {w : World} {g : Nat} {x : Int} (h : Blk w g 5 #[.int .u8 x]) : BAt w (some ⟨g, 0, none⟩) 1 (fun _ => x) := fun _ => ⟨g, 0, rfl, h.lt, fun j hj => by
  obtain rfl : j = 0 := by omega
  exact h.cell 0⟩
theorem cmp_ba : cmpI 64 (cpI 1 fun _ => 2) 64 (cpI 1 fun _ => 1) = 1 := by decide +kernel
set_option maxRecDepth 20000 in
set_option maxHeartbeats 16000000 in
theorem awake16_c (w : World) (hS : ShP w) (hCv : CvP w) : Calls Tryz.prog 14 #[] w (PostV (.bool true) w) := by
  have hB := hS.lt
  have hc1 := cmp_ba
  have by1 : Sc.Byt (fun _ => (1 : Int)) := fun _ => (by decide : (0 : Int) ≤ 1 ∧ (1 : Int) < 256)
  have by2 : Sc.Byt (fun _ => (2 : Int)) := fun _ => (by decide : (0 : Int) ≤ 2 ∧ (2 : Int) < 256)
  have hsg1 := fun g w1 (hb : Below w.heap.size w w1) (h : Blk w1 g 5 #[.int .u8 1]) => signed_c 1 0 1 (by decide) (some ⟨g, 0, none⟩) 1 1 (fun _ => 1) (by decide) by1 w1 (blk1_bat h) (hS.below hb hB) (hCv.below hb hCv.lt)
  have hsg2 := fun g w1 (hb : Below w.heap.size w w1) (h : Blk w1 g 5 #[.int .u8 2]) => signed_c 1 0 1 (by decide) (some ⟨g, 0, none⟩) 1 1 (fun _ => 2) (by decide) by2 w1 (blk1_bat h) (hS.below hb hB) (hCv.below hb hCv.lt)
  have hsg3 := fun g w1 (hb : Below w.heap.size w w1) (h : Blk w1 g 5 #[.int .u8 2]) => signed_c 1 0 2 (by decide) (some ⟨g, 0, none⟩) 1 1 (fun _ => 2) (by decide) by2 w1 (blk1_bat h) (hS.below hb hB) (hCv.below hb hCv.lt)
  obtain ⟨Sa, hSa⟩ : ∃ S, S = cpI 1 fun _ => 1 := ⟨_, rfl⟩
  obtain ⟨Sb, hSb⟩ : ∃ S, S = cpI 1 fun _ => 2 := ⟨_, rfl⟩
  have hSar : Sc.Byt Sa := by rw [hSa]; exact cpI_byt by1
  have hSbr : Sc.Byt Sb := by rw [hSb]; exact cpI_byt by2
  rw [← hSa] at hsg1
  rw [← hSb] at hsg2 hsg3
  rw [← hSa, ← hSb] at hc1
  clear hSa hSb by1 by2
  obtain ⟨Ga, hGa⟩ : ∃ G, G = Sh.sigI (sdI 1) [(89, txI 1 0 1 Sa)] := ⟨_, rfl⟩
  obtain ⟨Gb, hGb⟩ : ∃ G, G = Sh.sigI (sdI 1) [(89, txI 1 0 1 Sb)] := ⟨_, rfl⟩
  have hGar : Sc.Byt Ga := by rw [hGa]; exact sig_byt _ _
  have hGbr : Sc.Byt Gb := by rw [hGb]; exact sig_byt _ _
  have hva : Sh.verI (Sh.ptI (Sh.keyP (sdI 1))) Ga [(89, txI 1 0 1 Sa)] = true := by rw [hGa]; exact Sh.ver_sig (sdI 1) (fun _ _ => rfl) (fun _ _ => rfl) rfl (fun _ _ => rfl)
  have hvb : Sh.verI (Sh.ptI (Sh.keyP (sdI 1))) Gb [(89, txI 1 0 1 Sb)] = true := by rw [hGb]; exact Sh.ver_sig (sdI 1) (fun _ _ => rfl) (fun _ _ => rfl) rfl (fun _ _ => rfl)
  rw [← hGa] at hsg1
  rw [← hGb] at hsg2
  generalize Sh.sigI (sdI 1) [(89, txI 1 0 2 Sb)] = Gc at *
  have hse := Lib.hid (fun w1 => seed16_c 1 (by decide) (by decide) w1)
  have hPub := fun g c w1 (h : RowB w1 g 32 c (sdI 1)) (hb : Below w.heap.size w w1) => Public_c (some ⟨g, 0, none⟩) c (sdI 1) h.cap (fun j _ => sdI_byt 1 j) w1 h.bx (hS.below hb hB) (by have := hb.size; omega) (hCv.below hb hCv.lt)
  have hKr := key_byt (sdI 1)
  obtain ⟨K, hK⟩ : ∃ K, K = Sh.ptI (Sh.keyP (sdI 1)) := ⟨_, rfl⟩
  rw [← hK] at hPub hva hvb hKr
  have hO1 : ordI 1 0 1 64 64 Sb 1 0 1 64 64 Sa = 1 := by unfold ordI; rw [if_pos (by decide)]; exact hc1
  have hO2 : ordI 1 0 1 64 64 Sa 1 0 1 64 64 Sa = 0 := by unfold ordI; rw [if_pos (by decide)]; exact cmpI_self _ _
  have hO3 : ordI 1 0 1 64 64 Sa 1 0 2 64 64 Sb = 0 := by unfold ordI; rw [if_neg (by decide)]
  have hO4 : ordI 1 0 1 64 64 Sa 1 0 1 64 64 Sb < 0 := by
    unfold ordI
    rw [if_pos (by decide), cmpI_neg 64 Sb 64 Sa, hc1]
    decide
  have hOf1 := Lib.hid (fun a1 a2 a3 a4 b1 b2 b3 b4 w1 (k1 : RowB w1 a1 64 a2 Sa) (k2 : RowB w1 a3 64 a4 Ga) (k3 : RowB w1 b1 64 b2 Sb) (k4 : RowB w1 b3 64 b4 Gb) => Of_gt 1 0 1 b1 0 b2 b3 0 b4 Sb Gb a1 0 a2 a3 0 a4 Sa Ga hO1 w1 k3.bx k4.bx k1.bx k2.bx)
  have hOf2 := fun a1 a2 a3 a4 w1 (k1 : RowB w1 a1 64 a2 Sa) => Of_zero 1 0 1 (some ⟨a1, 0, none⟩) 64 a2 (some ⟨a3, 0, none⟩) 64 a4 1 0 1 (some ⟨a1, 0, none⟩) 64 a2 (some ⟨a3, 0, none⟩) 64 a4 Sa Sa hO2 w1 k1.bx k1.bx
  have hOf3 := fun a1 a2 a3 a4 c1 c2 c3 c4 w1 (k1 : RowB w1 a1 64 a2 Sa) (k2 : RowB w1 c1 64 c2 Sb) => Of_zero 1 0 1 (some ⟨a1, 0, none⟩) 64 a2 (some ⟨a3, 0, none⟩) 64 a4 1 0 2 (some ⟨c1, 0, none⟩) 64 c2 (some ⟨c3, 0, none⟩) 64 c4 Sa Sb hO3 w1 k1.bx k2.bx
  have hRt := fun a1 a2 a3 a4 b1 b2 b3 b4 w1 (k1 : RowB w1 a1 64 a2 Sa) (k2 : RowB w1 b1 64 b2 Sb) => eRight_c 1 0 1 (some ⟨a1, 0, none⟩) 64 a2 (some ⟨a3, 0, none⟩) 64 a4 1 0 1 (some ⟨b1, 0, none⟩) 64 b2 (some ⟨b3, 0, none⟩) 64 b4 Sa Sb w1 k1.bx k2.bx
  rw [decide_eq_true hO4] at hRt
  have hck := fun S G gk ck a1 a2 a3 a4 (hSr : Sc.Byt S) (hGr : Sc.Byt G) (hv : Sh.verI K G [(89, txI 1 0 1 S)] = true) w1 (hb : Below w.heap.size w w1) (hk : RowB w1 gk 32 ck K) (k1 : RowB w1 a1 64 a2 S) (k2 : RowB w1 a3 64 a4 G) => Check_true gk 0 ck a3 0 a4 1 0 1 (some ⟨a1, 0, none⟩) a2 S K G (by decide) k1.cap hk.cap k2.cap hKr hGr (fun j _ => hSr j) hv w1 hk.lt (fun j hj => by rw [Nat.zero_add]; exact hk.cell j hj) k2.lt (fun j hj => by rw [Nat.zero_add]; exact k2.cell j hj) k1.bx (hS.below hb hB) (hCv.below hb hCv.lt)
  have hCk := Lib.hid (fun gP gk ck a1 a2 a3 a4 b1 b2 b3 b4 w1 (hb : Below w.heap.size w w1) (hP : w1.cell? ⟨gP, 0, none⟩ = some (.slice (some ⟨gk, 0, none⟩) 32 ck)) (hlP : gP < w1.heap.size) (hk : RowB w1 gk 32 ck K) (k1 : RowB w1 a1 64 a2 Sa) (k2 : RowB w1 a3 64 a4 Ga) (k3 : RowB w1 b1 64 b2 Sb) (k4 : RowB w1 b3 64 b4 Gb) => eCheck_c gP gk ck 1 1 0 (by decide) (by decide) 1 0 1 (some ⟨a1, 0, none⟩) 64 a2 (some ⟨a3, 0, none⟩) 64 a4 1 0 1 (some ⟨b1, 0, none⟩) 64 b2 (some ⟨b3, 0, none⟩) 64 b4 (by decide) Sa Sb hO4 w1 k1.bx k3.bx hP hlP (fun w2 hb2 => hck Sa Ga gk ck a1 a2 a3 a4 hSar hGar hva w2 (hb.trans (hb2.mono hb.size)) (hk.below hb2) (k1.below hb2) (k2.below hb2)) (fun w2 hb2 => hck Sb Gb gk ck b1 b2 b3 b4 hSbr hGbr hvb w2 (hb.trans (hb2.mono hb.size)) (hk.below hb2) (k3.below hb2) (k4.below hb2)))
  unfold PostEv at hOf1
  unfold eZ at hOf2 hOf3
  obtain ⟨F, hF⟩ : ∃ F, F = sdI 1 := ⟨_, rfl⟩
  rw [← hF] at hse hPub
  replace hsg1 := Lib.hid hsg1
  replace hsg2 := Lib.hid hsg2
  replace hsg3 := Lib.hid hsg3
  replace hPub := Lib.hid hPub
  replace hOf2 := Lib.hid hOf2
  replace hOf3 := Lib.hid hOf3
  replace hRt := Lib.hid hRt
  clear hS hCv hc1 hSar hSbr hGa hGb hGar hGbr hva hvb hKr hK hO1 hO2 hO3 hO4 hck hF
  go_enter Tryz.func14, Tryz.ntmps14
  go_wp2_with fail
  refine calls_at (fun W1 hW => ?_)
  have hb0 : Below w.heap.size w W1 := by rw [hW]; go_grown
  have kk : Blk W1 w.heap.size 5 #[.int .u8 1] := by rw [hW]; exact Blk.new _ _ _
  clear hW
  refine (hsg1.out _ W1 hb0 kk).mono ?_
  rintro e w2 ⟨a1, a2, a3, a4, rfl, _, _, ka, ka2, hb⟩
  replace hb0 := hb0.trans (hb.mono hb0.size)
  clear hb kk hsg1
  go_wp2_with fail
  refine calls_at (fun W3 hW => ?_)
  have hb : Below w2.heap.size w2 W3 := by rw [hW]; go_grown
  have kk : Blk W3 w2.heap.size 5 #[.int .u8 2] := by rw [hW]; exact Blk.new _ _ _
  clear hW
  replace hb0 := hb0.trans (hb.mono hb0.size)
  replace ka := ka.below hb
  replace ka2 := ka2.below hb
  refine (hsg2.out _ W3 hb0 kk).mono ?_
  clear hb
  rintro e w4 ⟨b1, b2, b3, b4, rfl, _, _, kb, kb2, hb⟩
  replace hb0 := hb0.trans (hb.mono hb0.size)
  replace ka := ka.below hb
  replace ka2 := ka2.below hb
  clear hb kk hsg2
  go_wp2_with fail
  refine calls_at (fun W5 hW => ?_)
  have hb : Below w4.heap.size w4 W5 := by rw [hW]; go_grown
  have kk : Blk W5 w4.heap.size 5 #[.int .u8 2] := by rw [hW]; exact Blk.new _ _ _
  clear hW
  replace hb0 := hb0.trans (hb.mono hb0.size)
  replace ka := ka.below hb
  replace ka2 := ka2.below hb
  replace kb := kb.below hb
  replace kb2 := kb2.below hb
  refine (hsg3.out _ W5 hb0 kk).mono ?_
  clear hb
  rintro e w6 ⟨c1, c2, c3, c4, rfl, _, _, kc, _, hb⟩
  replace hb0 := hb0.trans (hb.mono hb0.size)
  replace ka := ka.below hb
  replace ka2 := ka2.below hb
  replace kb := kb.below hb
  replace kb2 := kb2.below hb
  clear hb kk hsg3
  go_wp2_with fail
  refine calls_at (fun W7 hW => ?_)
  have hb : Below w6.heap.size w6 W7 := by rw [hW]; go_grown
  obtain ⟨gA, hgA⟩ : ∃ g, g = w6.heap.size := ⟨_, rfl⟩
  obtain ⟨gB, hgB⟩ : ∃ g, g = w6.heap.size + 1 := ⟨_, rfl⟩
  obtain ⟨gC, hgC⟩ : ∃ g, g = w6.heap.size + 2 := ⟨_, rfl⟩
  have kA : Blk W7 gA 28 #[.int .i64 1, .int .i64 0, .int .i64 1, .slice (some ⟨a1, 0, none⟩) 64 a2, .slice (some ⟨a3, 0, none⟩) 64 a4] := by rw [hW, hgA]; exact ((Blk.new _ _ _).alloc _).alloc _
  have kB : Blk W7 gB 28 #[.int .i64 1, .int .i64 0, .int .i64 1, .slice (some ⟨b1, 0, none⟩) 64 b2, .slice (some ⟨b3, 0, none⟩) 64 b4] := by rw [hW, hgB]; exact (blk_at (by simp) (Blk.new _ _ _)).alloc _
  have kC : Blk W7 gC 28 #[.int .i64 1, .int .i64 0, .int .i64 2, .slice (some ⟨c1, 0, none⟩) 64 c2, .slice (some ⟨c3, 0, none⟩) 64 c4] := by rw [hW, hgC]; exact blk_at (by simp) (Blk.new _ _ _)
  rw [← hgC, ← hgB, ← hgA]
  clear hW hgA hgB hgC
  replace hb0 := hb0.trans (hb.mono hb0.size)
  replace ka := ka.below hb
  replace ka2 := ka2.below hb
  replace kb := kb.below hb
  replace kb2 := kb2.below hb
  replace kc := kc.below hb
  clear hb
  refine (hOf1.out a1 a2 a3 a4 b1 b2 b3 b4 W7 ka ka2 kb kb2).mono ?_
  rintro e w8 ⟨e1, e2, e3, e4, f1, f2, f3, f4, rfl, ke, ke2, kf, kf2, hb⟩
  replace hb0 := hb0.trans (hb.mono hb0.size)
  replace kA := kA.below hb
  replace kC := kC.below hb
  replace ka := ka.below hb
  replace kc := kc.below hb
  clear hb hOf1 kB kb kb2 ka2
  obtain ⟨y0, y1, y2, y3, y4⟩ := blk5v kA
  have lA := kA.lt
  go_wp2_with fail
  refine calls_at (fun W9 hW => ?_)
  have hb : Below w8.heap.size w8 W9 := by rw [hW]; go_grown
  obtain ⟨gE, hgE⟩ : ∃ g, g = w8.heap.size := ⟨_, rfl⟩
  have kE : Blk W9 gE 36 #[.int .i64 1, .int .i64 0, .int .i64 1, .slice (some ⟨e1, 0, none⟩) 64 e2, .slice (some ⟨e3, 0, none⟩) 64 e4, .int .i64 1, .int .i64 0, .int .i64 1, .slice (some ⟨f1, 0, none⟩) 64 f2, .slice (some ⟨f3, 0, none⟩) 64 f4] := by rw [hW, hgE]; exact Blk.new _ _ _
  rw [← hgE]
  clear hW hgE
  replace hb0 := hb0.trans (hb.mono hb0.size)
  replace kA := kA.below hb
  replace kC := kC.below hb
  replace ka := ka.below hb
  replace kc := kc.below hb
  replace ke := ke.below hb
  replace ke2 := ke2.below hb
  replace kf := kf.below hb
  replace kf2 := kf2.below hb
  clear hb y0 y1 y2 y3 y4 lA
  refine (hOf2.out a1 a2 a3 a4 W9 ka).mono ?_
  rintro e w10 ⟨rfl, hb⟩
  replace hb0 := hb0.trans (hb.mono hb0.size)
  replace kA := kA.below hb
  replace kC := kC.below hb
  replace kE := kE.below hb
  replace ka := ka.below hb
  replace kc := kc.below hb
  replace ke := ke.below hb
  replace ke2 := ke2.below hb
  replace kf := kf.below hb
  replace kf2 := kf2.below hb
  clear hb hOf2
  obtain ⟨y0, y1, y2, y3, y4⟩ := blk5v kA
  obtain ⟨z0, z1, z2, z3, z4⟩ := blk5v kC
  have lA := kA.lt
  have lC := kC.lt
  go_wp2_with fail
  refine calls_at (fun W11 hW => ?_)
  have hb : Below w10.heap.size w10 W11 := by rw [hW]; go_grown
  clear hW
  replace hb0 := hb0.trans (hb.mono hb0.size)
  replace kE := kE.below hb
  replace ka := ka.below hb
  replace kc := kc.below hb
  replace ke := ke.below hb
  replace ke2 := ke2.below hb
  replace kf := kf.below hb
  replace kf2 := kf2.below hb
  clear hb y0 y1 y2 y3 y4 lA z0 z1 z2 z3 z4 lC kA kC
  refine (hOf3.out a1 a2 a3 a4 c1 c2 c3 c4 W11 ka kc).mono ?_
  rintro e w12 ⟨rfl, hb⟩
  replace hb0 := hb0.trans (hb.mono hb0.size)
  replace kE := kE.below hb
  replace ke := ke.below hb
  replace ke2 := ke2.below hb
  replace kf := kf.below hb
  replace kf2 := kf2.below hb
  clear hb hOf3 ka kc
  go_upto_region 5 with fail
  refine at_world (fun W hW => ?_)
  have hb : Below w12.heap.size w12 W := by rw [hW]; go_grown
  clear hW
  replace hb0 := Lib.hid (hb0.trans (hb.mono hb0.size))
  replace kE := kE.below hb
  replace ke := ke.below hb
  replace ke2 := ke2.below hb
  replace kf := kf.below hb
  replace kf2 := kf2.below hb
  clear hb
  have hSS := Lib.hid (fun w' (hb : Below W.heap.size W w') => (blk10v (kE.below hb) : (w'.cell? ⟨gE, 0, none⟩ = some (.int .i64 1) ∧ w'.cell? ⟨gE, 1, none⟩ = some (.int .i64 0) ∧ w'.cell? ⟨gE, 2, none⟩ = some (.int .i64 1) ∧ w'.cell? ⟨gE, 3, none⟩ = some (.slice (some ⟨e1, 0, none⟩) 64 e2) ∧ w'.cell? ⟨gE, 4, none⟩ = some (.slice (some ⟨e3, 0, none⟩) 64 e4)) ∧ w'.cell? ⟨gE, 5, none⟩ = some (.int .i64 1) ∧ w'.cell? ⟨gE, 6, none⟩ = some (.int .i64 0) ∧ w'.cell? ⟨gE, 7, none⟩ = some (.int .i64 1) ∧ w'.cell? ⟨gE, 8, none⟩ = some (.slice (some ⟨f1, 0, none⟩) 64 f2) ∧ w'.cell? ⟨gE, 9, none⟩ = some (.slice (some ⟨f3, 0, none⟩) 64 f4)))
  have h0 := Below.refl W.heap.size W
  have hs := Lib.hid hb0.out.size
  replace ke := Lib.hid ke
  replace ke2 := Lib.hid ke2
  replace kf := Lib.hid kf
  replace kf2 := Lib.hid kf2
  clear kE
  go_region_held3 (fun w' => (w'.cell? ⟨gE, 0, none⟩ = some (.int .i64 1) ∧ w'.cell? ⟨gE, 1, none⟩ = some (.int .i64 0) ∧ w'.cell? ⟨gE, 2, none⟩ = some (.int .i64 1) ∧ w'.cell? ⟨gE, 3, none⟩ = some (.slice (some ⟨e1, 0, none⟩) 64 e2) ∧ w'.cell? ⟨gE, 4, none⟩ = some (.slice (some ⟨e3, 0, none⟩) 64 e4)) ∧ w'.cell? ⟨gE, 5, none⟩ = some (.int .i64 1) ∧ w'.cell? ⟨gE, 6, none⟩ = some (.int .i64 0) ∧ w'.cell? ⟨gE, 7, none⟩ = some (.int .i64 1) ∧ w'.cell? ⟨gE, 8, none⟩ = some (.slice (some ⟨f1, 0, none⟩) 64 f2) ∧ w'.cell? ⟨gE, 9, none⟩ = some (.slice (some ⟨f3, 0, none⟩) 64 f4)) (first | exact hSS.out _ n24.drew | exact hSS.out _ n24 | exact hSS.out _ n23 | exact hSS.out _ n23.drew | exact hSS.out _ (n23.alloc n23.size _) | exact hSS.out _ n22 | exact hSS.out _ n22.drew | exact hSS.out _ n21 | exact hSS.out _ n21.drew | exact hSS.out _ h0 | exact hSS.out _ h0.drew) (first | (go_at_call 21; refine calls_at (fun V1 h1 => ?_); have m1 : Below W.heap.size W V1 := (by rw [h1]; go_grown); clear h1; (with_reducible refine (hRt.out e1 e2 e3 e4 f1 f2 f3 f4 V1 (ke.out.below m1) (kf.out.below m1)).mono ?_); rintro e w21 ⟨rfl, hbb⟩; have n21 := m1.trans (hbb.mono m1.size); clear hbb m1 hRt) | (go_at_call 19; refine calls_at (fun V1 h1 => ?_); have m1 : Below w21.heap.size w21 V1 := (by rw [h1]; go_grown); clear h1; have m2 := n21.trans (m1.mono n21.size); (with_reducible refine (hse.out V1).mono ?_); rintro e w22 ⟨gs, cs, rfl, _, kq, hbb⟩; have n22 := m2.trans (hbb.mono m2.size); clear hbb m1 m2 hse) | (go_at_call 18; refine calls_at (fun V1 h1 => ?_); have m1 : Below w22.heap.size w22 V1 := (by rw [h1]; go_grown); clear h1; have m2 := n22.trans (m1.mono n22.size); (with_reducible refine (hPub.out gs cs V1 (kq.below m1) (hb0.out.trans (m2.mono hs.out))).mono ?_); rintro e w23 ⟨gk, ck, rfl, _, kk, hbb⟩; have n23 := m2.trans (hbb.mono m2.size); clear hbb m1 m2 hPub) | (go_at_call 42; refine calls_at (fun V1 h1 => ?_); have m1 : Below w23.heap.size w23 V1 := (by rw [h1]; go_grown); have kP : Blk V1 w23.heap.size 26 #[.slice (some ⟨gk, 0, none⟩) 32 ck] := (by rw [h1]; exact Blk.new _ _ _); have xP : V1.cell? ⟨w23.heap.size, 0, none⟩ = some (.slice (some ⟨gk, 0, none⟩) 32 ck) := kP.cell 0; clear h1; have m2 := n23.trans (m1.mono n23.size); (with_reducible refine (hCk.out w23.heap.size gk ck e1 e2 e3 e4 f1 f2 f3 f4 V1 (hb0.out.trans (m2.mono hs.out)) xP kP.lt (kk.below m1) (ke.out.below m2) (ke2.out.below m2) (kf.out.below m2) (kf2.out.below m2)).mono ?_); rintro e w24 ⟨rfl, hbb⟩; have n24 := m2.trans (hbb.mono m2.size); clear hbb m1 m2 kP xP))
  all_goals
    have hP := Lib.hid (hb0.out.trans (n24.mono hs.out))
    clear hSS n24 n23 n22 n21 h0 hb0 hs ke ke2 kf kf2
    go_wp2_with fail
    go_returns
    exact ⟨rfl, hP.out⟩
end Go.Proofs.YtgjffaoggjlamaaGreatDoor

namespace Go.Proofs.YtgjffaoggjlamaaGreatDoor
open Go Go.RowKit
/-- a root that was signed: where it lies, what it says -/
structure RD where
  sh : Int
  sq : Int
  a1 : Nat
  b1 : Nat
  a2 : Nat
  b2 : Nat
  S : Nat → Int
def RD.c (x : RD) : List Value := [.int .i64 2, .int .i64 x.sh, .int .i64 x.sq, .slice (some ⟨x.a1, 0, none⟩) 64 x.b1, .slice (some ⟨x.a2, 0, none⟩) 64 x.b2]
def RD.g (x : RD) : Nat → Int := Sh.sigI (sdI 2) [(89, txI 2 x.sh x.sq x.S)]
structure RD.ok (w : World) (x : RD) : Prop where
  sh : shT 2 x.sh x.sq 64 = true
  byt : Sc.Byt x.S
  r1 : RowB w x.a1 64 x.b1 x.S
  r2 : RowB w x.a2 64 x.b2 x.g
theorem RD.ok.below {w w' : World} {x : RD} (h : x.ok w) (hb : Below w.heap.size w w') : x.ok w' := ⟨h.sh, h.byt, h.r1.below hb, h.r2.below hb⟩
structure RowsH (B : Nat) (w : World) (v : Value) (L : List RD) : Prop where
  own : w.ownsRow B 28 5 v L.length (L.flatMap RD.c)
  ok : ∀ x ∈ L, x.ok w ∧ v.ownBlock ≠ some x.a1 ∧ v.ownBlock ≠ some x.a2
  dist : ∀ (i j : Nat) (x y : RD), L[i]? = some x → L[j]? = some y → x.sh = y.sh → x.sq = y.sq → i = j
theorem gnone {w w' : World} (hb : Below w.heap.size w w') : w.grownBy w' none := ⟨hb.os, hb.tape, hb.output, hb.size, fun k hk _ => hb.block k hk⟩
theorem RowsH.below {B : Nat} {w w' : World} {v : Value} {L : List RD} (h : RowsH B w v L) (hb : Below w.heap.size w w') : RowsH B w' v L where
  own := by
    refine h.own.kept (gnone hb) ?_
    cases e : v.ownBlock with
    | none => exact .inl rfl
    | some g => exact .inr (fun h => by cases h)
  ok := fun x hx => ⟨(h.ok x hx).1.below hb, (h.ok x hx).2⟩
  dist := h.dist
theorem RowsH.nil (B : Nat) (w : World) : RowsH B w (.slice none 0 0) [] where
  own := World.ownsRow_nil w B _ 5
  ok := fun x hx => by cases hx
  dist := fun i j x y h => by simp at h
theorem flat_at : ∀ (L : List RD) (k : Nat) (x : RD) (j : Nat), L[k]? = some x → j < 5 → (L.flatMap RD.c)[k * 5 + j]? = x.c[j]?
  | [], k, x, j, h, _ => by simp at h
  | y :: L, 0, x, j, h, hj => by
    obtain rfl : y = x := by simpa using h
    rw [List.flatMap_cons, Nat.zero_mul, Nat.zero_add, List.getElem?_append_left (by show j < 5; exact hj)]
  | y :: L, k + 1, x, j, h, hj => by
    rw [List.flatMap_cons, List.getElem?_append_right (by show 5 ≤ (k + 1) * 5 + j; omega), show (k + 1) * 5 + j - y.c.length = k * 5 + j by show (k + 1) * 5 + j - 5 = _; omega]
    exact flat_at L k x j (by simpa using h) hj
theorem RowsH.sl {B : Nat} {w : World} {v : Value} {L : List RD} (h : RowsH B w v L) : ∃ p c, v = .slice p L.length c := by
  rcases h.own.2 with ⟨rfl, h0⟩ | ⟨g, cap, cur, rfl, _⟩
  · exact ⟨none, 0, by rw [h0]⟩
  · exact ⟨_, _, rfl⟩
theorem RowsH.get {B : Nat} {w : World} {p : Option Addr} {n c : Nat} {L : List RD} (h : RowsH B w (.slice p n c) L) (hn : n = L.length) {k : Nat} {x : RD} (hk : L[k]? = some x) : ∃ g, p = some ⟨g, 0, none⟩ ∧ g < w.heap.size ∧ (w.cell? ⟨g, k * 5, none⟩ = some (.int .i64 2) ∧ w.cell? ⟨g, k * 5 + 1, none⟩ = some (.int .i64 x.sh) ∧ w.cell? ⟨g, k * 5 + 2, none⟩ = some (.int .i64 x.sq) ∧ w.cell? ⟨g, k * 5 + 3, none⟩ = some (.slice (some ⟨x.a1, 0, none⟩) 64 x.b1) ∧ w.cell? ⟨g, k * 5 + 4, none⟩ = some (.slice (some ⟨x.a2, 0, none⟩) 64 x.b2)) := by
  subst hn
  have hl : k < L.length := (List.getElem?_eq_some_iff.1 hk).1
  have ho := h.own
  rcases ho.2 with ⟨_, h0⟩ | ⟨g, cap, cur, e, _, hg, _⟩
  · omega
  injection e with e1 e2 e3
  subst e1 e3
  have hc := fun j (hj : j < 5) => (ho.cellAt (k * 5 + j) (by have : (k + 1) * 5 ≤ L.length * 5 := Nat.mul_le_mul_right _ hl; omega)).trans (flat_at L k x j hk hj)
  exact ⟨g, rfl, (Array.getElem?_eq_some_iff.1 hg).1, hc 0 (by decide), hc 1 (by decide), hc 2 (by decide), hc 3 (by decide), hc 4 (by decide)⟩
section
variable {ops : Array Oper} {rest : List Oper} {o : Oper} {a : Act} {w : World} {Q : Exit → Act → World → Prop}
end
end Go.Proofs.YtgjffaoggjlamaaGreatDoor

namespace Go.Proofs.YtgjffaoggjlamaaGreatDoor
open Go.ChangeShapes Go.WideShapes Go.ChangeAt Go.WideMaps Go.WideElems Go.RowKit
section
variable {H : Type} {enc : TypeId × Value → H} {W : World} {base : Nat} {sp : Nat → Bool}
end
end Go.Proofs.YtgjffaoggjlamaaGreatDoor
