/- SignParts answers true at every input, and its arguments read as they did; its four package variables are tied to the program's text. -/
import Derived.Test.YtigcobcpfmnhoaaDoorCu
import Derived.Test.YtigcobcpfmnhoaaDoorCv
namespace Sh
open Go Go.Proofs.YtigcobcpfmnhoaaDoor Go.Proofs
theorem sigI_congr (f : Nat → Int) {l l' : Ps} (hl : lenI l = lenI l') (hc : ∀ j, j < lenI l → catI l j = catI l' j) : sigI f l = sigI f l' := by
  have h1 : rI f l = rI f l' := numI_congr (l := (32, _) :: l) (m := (32, _) :: l') (by show 32 + lenI l = 32 + lenI l'; rw [hl]) (cat_cons rfl (fun _ _ => rfl) hc)
  have h2 : rP f l = rP f l' := by unfold rP; rw [h1]
  have h3 : hI f l = hI f l' := by
    unfold hI
    rw [← h2]
    exact numI_congr (l := (32, _) :: (32, _) :: l) (m := (32, _) :: (32, _) :: l') (by show 32 + (32 + lenI l) = 32 + (32 + lenI l'); rw [hl]) (cat_cons rfl (fun _ _ => rfl) (cat_cons rfl (fun _ _ => rfl) hc))
  unfold sigI sI
  rw [h2, h3, h1]
end Sh
namespace Go.Proofs.YtigcobcpfmnhoaaDoor
open Go Go.RowKit
theorem run_slMid (p : Option Addr) (l c i k : Nat) (h : i ≤ k) (h2 : k ≤ c) (w : World) : (Instr.slice 22 (.slice p l c) (some (.int .i64 (i : Int))) (some (.int .i64 (k : Int))) none).run Tryd.prog w = .ok (.slice (cutP p c i) (k - i) (c - i)) w := by
  obtain ⟨u, hi, hz, hs, hby⟩ := info3 u8_info'
  have h1 : (0 : Int) ≤ (i : Int) ∧ (i : Int) ≤ (k : Int) := by omega
  have h3 : (0 : Int) ≤ (k : Int) ∧ (k : Int) ≤ (c : Int) := by omega
  simp [Instr.slice, Instr.sliceBounds, Instr.sliceBound, asIntOf, run_underlying by_under', sizeOf, typeInfo, hi, hs, h1, h3, h, h2, cutP]
theorem eqB_same (n : Nat) (f : Nat → Int) : eqB n f n f = true := decide_eq_true ⟨rfl, fun _ _ => rfl⟩
set_option maxRecDepth 20000 in
set_option maxHeartbeats 4000000 in
theorem parts_short (p1 : Option Addr) (n1 c1 : Nat) (b1 : Nat → Int) (p2 : Option Addr) (n2 c2 : Nat) (b2 : Nat → Int) (x3 x4 : Int) (h1 : n1 ≤ 100) (h2 : n2 ≤ 1000) (hr1 : Sc.Byt b1) (hr2 : Sc.Byt b2) (hc2 : n2 ≤ c2) (w : World) (hB1 : BAt w p1 n1 b1) (hB2 : BAt w p2 n2 b2) (hS : ShP w) (hCv : CvP w) : Calls Tryd.prog 5 #[.slice p1 n1 c1, .slice p2 n2 c2, .int .i64 x3, .int .i64 x4] w (PostV (.bool true) w) := by
  have hB := hS.lt
  have ha := Lib.hid (awake5_c w hS hCv)
  have i1 : (n1 : Int) ≤ 100 := by omega
  have i2 : (n2 : Int) ≤ 1000 := by omega
  have hse := Lib.hid (fun w1 (hb : Below w.heap.size w w1) => seed_c p1 n1 c1 b1 h1 w1 (hB1.below hb))
  obtain ⟨F, hF⟩ : ∃ F, F = foldB b1 n1 := ⟨_, rfl⟩
  have hFr : Sc.Byt F := by rw [hF]; exact fun j => foldB_r hr1 n1 j
  rw [← hF] at hse
  have hX2 : ∀ w1, Below w.heap.size w w1 → BX [] w1 p2 n2 b2 := fun w1 hb h0 => by
    obtain ⟨g, o, e, hg, hc⟩ := hB2.below hb h0
    exact ⟨g, o, e, hg, by simp, hc⟩
  have hw0 : IntKind.i64.wrap ((n2 : Int) + 1) = ((n2 + 1 : Nat) : Int) := by rw [IntKind.wrap_i64]; omega
  have hPk := Lib.hid (fun x n (h0 : 0 < n) (h : n ≤ 1000000000) w1 => pick_c x n h0 h w1)
  have hPub := Lib.hid (fun g c w1 (h : RowB w1 g 32 c F) (hb : Below w.heap.size w w1) => Public_c (some ⟨g, 0, none⟩) c F h.cap (fun j _ => hFr j) w1 h.bx (hS.below hb hB) (by have := hb.size; omega) (hCv.below hb hCv.lt))
  have hSig := fun (cs : List Value) (l : Sh.Ps) (h0 : 0 < cs.length) (h9 : cs.length ≤ 4) (hlen : Sh.lenI l ≤ 1000) (hby : Sh.BytI l) g c w1 (h : RowB w1 g 32 c F) (hb : Below w.heap.size w w1) (hl : PVs w1 cs l) => signL F hFr cs l h0 (by omega) (by omega) hby g c w1 (hS.below hb hB) (hCv.below hb hCv.lt) h hl
  have hVer := fun (cs : List Value) (l : Sh.Ps) (h0 : 0 < cs.length) (h9 : cs.length ≤ 4) (hlen : Sh.lenI l ≤ 1000) (hby : Sh.BytI l) (G : Nat → Int) (hG : Sc.Byt G) (hv : Sh.verI (Sh.ptI (Sh.keyP F)) G l = true) g c g2 d w1 (h : RowB w1 g 32 c (Sh.ptI (Sh.keyP F))) (h2 : RowB w1 g2 64 d G) (hb : Below w.heap.size w w1) (hl : PVs w1 cs l) => verifyL (Sh.ptI (Sh.keyP F)) G (key_byt F) hG true hv cs h0 (by omega) (by omega) hby g c g2 d w1 (hS.below hb hB) (hCv.below hb hCv.lt) h h2 hl
  have hv1 := fun l' h h' h3 h4 => Sh.ver_sig F (b := Sh.ptI (Sh.keyP F)) (s := Sh.sigI F [(n2, b2)]) (l := [(n2, b2)]) (l' := l') h h' h3 h4
  have hcg := fun l' h h' => Sh.sigI_congr F (l := [(n2, b2)]) (l' := l') h h'
  obtain ⟨G, hG⟩ : ∃ G, G = Sh.sigI F [(n2, b2)] := ⟨_, rfl⟩
  have hGr : Sc.Byt G := by rw [hG]; exact sig_byt _ _
  obtain ⟨K, hK⟩ : ∃ K, K = Sh.ptI (Sh.keyP F) := ⟨_, rfl⟩
  have hS1 := fun g c w1 (h : RowB w1 g 32 c F) (hb : Below w.heap.size w w1) => show Calls Tryd.prog 21 #[.slice (some ⟨g, 0, none⟩) 32 c, .slice (some ⟨w1.heap.size, 0, none⟩) 1 1] (w1.alloc (.cells #[.slice p2 n2 c2] 22)) (PostBs 64 (Sh.sigI F [(n2, b2)]) w1) from hSig [.slice p2 n2 c2] [(n2, b2)] (by show 0 < 1; decide) (by show 1 ≤ 4; decide) (by show n2 + 0 ≤ 1000; omega) ⟨fun j _ => hr2 j, trivial⟩ g c w1 h hb ⟨⟨p2, c2, rfl, hc2, hX2 w1 hb⟩, trivial⟩
  rw [← hG] at hS1 hv1 hcg
  rw [← hK] at hPub hVer hv1
  have hSmt := Lib.hid (fun g c g' c' w1 (h : RowB w1 g 64 c G) (h' : RowB w1 g' 64 c' G) => (sameB_c (some ⟨g, 0, none⟩) (some ⟨g', 0, none⟩) 64 c 64 c' G G (by decide) (by decide) w1 (h.bat (Nat.le_refl _)) (h'.bat (Nat.le_refl _))).mono fun e w' ⟨he, hbb⟩ => (⟨by rw [he, eqB_same], hbb⟩ : PostV (.bool true) w1 e w'))
  replace hFr := Lib.hid hFr
  replace hr2 := Lib.hid hr2
  replace hS1 := Lib.hid hS1
  replace hSig := Lib.hid hSig
  replace hVer := Lib.hid hVer
  replace hv1 := Lib.hid hv1
  replace hcg := Lib.hid hcg
  replace hGr := Lib.hid hGr
  replace hX2 := Lib.hid hX2
  clear hF hB1 hB2 hS hCv hr1 hB hG hK
  go_enter Tryd.func5, Tryd.ntmps5
  go_wp2_with fail
  refine ha.out.mono ?_
  rintro e w1 ⟨rfl, hb1⟩
  clear ha
  go_wp2_with fail
  refine (hse.out w1 hb1).mono ?_
  rintro e w2 ⟨gx, cx, rfl, _, hRx, hb2⟩
  replace hRx := Lib.hid hRx
  replace hb2 := Lib.hid (hb1.trans (hb2.mono hb1.size))
  clear hse hb1
  go_wp2_with fail
  refine (hPk.out x3 (n2 + 1) (by omega) (by omega) w2).mono ?_
  rintro e w3 ⟨i, rfl, hi, rfl⟩
  have hw1 : IntKind.i64.wrap ((n2 : Int) - (i : Int)) = ((n2 - i : Nat) : Int) := by rw [IntKind.wrap_i64]; omega
  have hw2 : IntKind.i64.wrap (((n2 - i : Nat) : Int) + 1) = ((n2 - i + 1 : Nat) : Int) := by rw [IntKind.wrap_i64]; omega
  go_wp2_with fail
  refine (hPk.out x4 (n2 - i + 1) (by omega) (by omega) w3).mono ?_
  rintro e w3 ⟨j, rfl, hj, rfl⟩
  obtain ⟨k, hk⟩ : ∃ k, k = i + j := ⟨_, rfl⟩
  have hw3 : IntKind.i64.wrap ((i : Int) + (j : Int)) = (k : Int) := by rw [IntKind.wrap_i64]; omega
  have hik : i ≤ k := by omega
  have hkn : k ≤ n2 := by omega
  clear hk hw0 hw1 hw2 hPk
  go_wp2_with fail
  refine (hS1.out gx cx w3 hRx.out hb2.out).mono ?_
  rintro e w4 ⟨gs, cs, rfl, _, hRs, hb4⟩
  have hs := hb2.out.size
  replace hRx := Lib.hid (hRx.out.below hb4)
  replace hRs := Lib.hid hRs
  replace hb4 := Lib.hid (hb2.out.trans (hb4.mono hs))
  clear hs hb2 hw3
  go_wp2_with fail
  refine (hPub.out gx cx w4 hRx.out hb4.out).mono ?_
  rintro e w5 ⟨gp, cp, rfl, _, hRp, hb5⟩
  have hs := hb4.out.size
  replace hRx := Lib.hid (hRx.out.below hb5)
  replace hRs := Lib.hid (hRs.out.below hb5)
  replace hRp := Lib.hid hRp
  replace hb5 := hb4.out.trans (hb5.mono hs)
  clear hs hb4 hPub
  have hsl1 := run_slHi p2 n2 c2 i (by omega)
  have hsl2 := run_slMid p2 n2 c2 i k hik (by omega)
  have hsl3 := run_slLo p2 n2 c2 k hkn
  have hcut1 : ∀ w1, Below w.heap.size w w1 → BX [] w1 (cutP p2 c2 i) (k - i) (fun j => b2 (i + j)) := fun w1 hb => by
    have := ((hX2.out w1 hb).pre (m := k) hkn)
    have h2 : BX [] w1 p2 k (fun j => b2 (0 + j)) := by simpa using this
    have h3 := h2.cut (c := c2) hik (by omega)
    simpa using h3
  have hcut2 : ∀ w1, Below w.heap.size w w1 → BX [] w1 (cutP p2 c2 k) (n2 - k) (fun j => b2 (k + j)) := fun w1 hb => by
    have h2 : BX [] w1 p2 n2 (fun j => b2 (0 + j)) := by simpa using hX2.out w1 hb
    have h3 := h2.cut (c := c2) hkn (by omega)
    simpa using h3
  obtain ⟨P1, hP1⟩ : ∃ P, P = cutP p2 c2 i := ⟨_, rfl⟩
  obtain ⟨P2, hP2⟩ : ∃ P, P = cutP p2 c2 k := ⟨_, rfl⟩
  rw [← hP1] at hsl2 hcut1
  rw [← hP2] at hsl3 hcut2
  have hc3 : ∀ j, j < Sh.lenI [(n2, b2)] → Sh.catI [(n2, b2)] j = Sh.catI [(i, b2), (k - i, fun j => b2 (i + j)), (n2 - k, fun j => b2 (k + j))] j := fun j hj => by
    have hj : j < n2 := hj
    unfold Sh.catI
    rw [if_pos (by exact hj)]
    by_cases e1 : j < i
    · rw [if_pos (by exact e1)]
    rw [if_neg (by exact e1)]
    unfold Sh.catI
    by_cases e2 : j - i < k - i
    · rw [if_pos (by exact e2)]
      show b2 j = b2 (i + (j - i))
      rw [show i + (j - i) = j by omega]
    rw [if_neg (by exact e2)]
    unfold Sh.catI
    rw [if_pos (by show j - i - (k - i) < n2 - k; omega)]
    show b2 j = b2 (k + (j - i - (k - i)))
    rw [show k + (j - i - (k - i)) = j by omega]
  have hc4 : ∀ j, j < Sh.lenI [(n2, b2)] → Sh.catI [(n2, b2)] j = Sh.catI [(i, b2), (0, fun _ => 0), (k - i, fun j => b2 (i + j)), (n2 - k, fun j => b2 (k + j))] j := fun j hj => by
    rw [hc3 j hj]
    unfold Sh.catI
    by_cases e1 : j < i
    · rw [if_pos (by exact e1), if_pos (by exact e1)]
    rw [if_neg (by exact e1), if_neg (by exact e1)]
    conv => rhs; unfold Sh.catI
    rw [if_neg (by show ¬ j - i < 0; omega)]
    rfl
  have hl3 : Sh.lenI [(i, b2), (k - i, fun j => b2 (i + j)), (n2 - k, fun j => b2 (k + j))] = n2 := by show i + (k - i + (n2 - k + 0)) = n2; omega
  have hl4 : Sh.lenI [(i, b2), (0, fun _ => 0), (k - i, fun j => b2 (i + j)), (n2 - k, fun j => b2 (k + j))] = n2 := by show i + (0 + (k - i + (n2 - k + 0))) = n2; omega
  have hS3 := Lib.hid (fun g c w1 (h : RowB w1 g 32 c F) (hb : Below w.heap.size w w1) => hSig.out [.slice p2 i c2, .slice P1 (k - i) (c2 - i), .slice P2 (n2 - k) (c2 - k)] [(i, b2), (k - i, fun j => b2 (i + j)), (n2 - k, fun j => b2 (k + j))] (by show 0 < 3; decide) (by show 3 ≤ 4; decide) (by rw [hl3]; exact h2) ⟨fun j _ => hr2.out j, fun j _ => hr2.out _, fun j _ => hr2.out _, trivial⟩ g c w1 h hb ⟨⟨p2, c2, rfl, by omega, (hX2.out w1 hb).pre (by omega)⟩, ⟨_, _, rfl, by show k - i ≤ c2 - i; omega, hcut1 w1 hb⟩, ⟨_, _, rfl, by show n2 - k ≤ c2 - k; omega, hcut2 w1 hb⟩, trivial⟩)
  have hG3 := hcg.out [(i, b2), (k - i, fun j => b2 (i + j)), (n2 - k, fun j => b2 (k + j))] (by rw [hl3]; rfl) hc3
  have hV4 := Lib.hid (fun g c g2 d w1 (h : RowB w1 g 32 c K) (h' : RowB w1 g2 64 d G) (hb : Below w.heap.size w w1) => show Calls Tryd.prog 22 #[.slice (some ⟨g, 0, none⟩) 32 c, .slice (some ⟨g2, 0, none⟩) 64 d, .slice (some ⟨w1.heap.size, 0, none⟩) 4 4] (w1.alloc (.cells #[.slice p2 i c2, .slice none 0 0, .slice P1 (k - i) (c2 - i), .slice P2 (n2 - k) (c2 - k)] 22)) (PostV (.bool true) w1) from hVer.out [.slice p2 i c2, .slice none 0 0, .slice P1 (k - i) (c2 - i), .slice P2 (n2 - k) (c2 - k)] [(i, b2), (0, fun _ => 0), (k - i, fun j => b2 (i + j)), (n2 - k, fun j => b2 (k + j))] (by show 0 < 4; decide) (by show 4 ≤ 4; decide) (by rw [hl4]; exact h2) ⟨fun j _ => hr2.out j, fun j hj => absurd hj (by show ¬ j < 0; omega), fun j _ => hr2.out _, fun j _ => hr2.out _, trivial⟩ G hGr.out (hv1.out _ (fun _ _ => by first | rfl | trivial) (fun _ _ => by first | rfl | trivial) (by rw [hl4]; rfl) hc4) g c g2 d w1 h h' hb ⟨⟨p2, c2, rfl, by omega, (hX2.out w1 hb).pre (by omega)⟩, ⟨none, 0, rfl, Nat.le_refl _, fun h => absurd h (by decide)⟩, ⟨_, _, rfl, by show k - i ≤ c2 - i; omega, hcut1 w1 hb⟩, ⟨_, _, rfl, by show n2 - k ≤ c2 - k; omega, hcut2 w1 hb⟩, trivial⟩)
  replace hS3 := hS3.out
  rw [← hG3] at hS3
  replace hS3 := Lib.hid hS3
  have j1 : (i : Int) ≤ (k : Int) := by omega
  have j2 : (k : Int) ≤ (n2 : Int) := by omega
  clear hv1 hcg hSig hVer hc3 hc4 hl3 hl4 hG3 hcut1 hcut2 hP1 hP2 hi hj hGr hFr hr2 hX2
  have hb0 := hb5
  have h0 := Below.refl w5.heap.size w5
  have hS3d : Calls Tryd.prog 21 #[.slice (some ⟨gx, 0, none⟩) 32 cx, .slice (some ⟨w5.heap.size, 0, none⟩) 3 3] (w5.alloc (.cells #[.slice p2 i c2, .slice P1 (k - i) (c2 - i), .slice P2 (n2 - k) (c2 - k)] 22)).drew (PostBs 64 G w5.drew) := hS3.out gx cx w5.drew (hRx.out.below h0.drew) (hb0.trans (h0.drew.mono hb0.size))
  replace hS3d := Lib.hid hS3d
  clear hS3
  go_wp2_with fail
  go_region_held3 (fun w' => Below w5.heap.size w5 w') (first | exact k5 | exact k4.alloc k4.size _ | exact k4 | exact k3 | exact k2.alloc k2.size _ | exact k2 | exact k1 | exact (h0.alloc (Nat.le_refl _) _).drew | exact h0.drew | exact h0) (first | (go_at_call 21; (with_reducible refine hS3d.out.mono ?_); rintro e w6 ⟨g6, c6, rfl, _, hR6, k1⟩; replace hR6 := Lib.hid hR6; replace k1 := h0.drew.trans (k1.mono h0.size)) | (go_at_call 25; (with_reducible refine (hSmt.out g6 c6 gs cs _ hR6.out (hRs.out.below k1)).mono ?_); rintro e w7 ⟨rfl, k2⟩; replace k2 := k1.trans (k2.mono k1.size)) | (go_at_call 21; (with_reducible refine (hS1.out gx cx _ (hRx.out.below k2) (hb0.trans (k2.mono hb0.size))).mono ?_); rintro e w8 ⟨g8, c8, rfl, _, hR8, k3⟩; replace hR8 := Lib.hid hR8; replace k3 := k2.trans (k3.mono k2.size)) | (go_at_call 25; (with_reducible refine (hSmt.out g8 c8 gs cs _ hR8.out (hRs.out.below k3)).mono ?_); rintro e w9 ⟨rfl, k4⟩; replace k4 := k3.trans (k4.mono k3.size)) | (go_at_call 22; (with_reducible refine (hV4.out gp cp gs cs _ (hRp.out.below k4) (hRs.out.below k4) (hb0.trans (k4.mono hb0.size))).mono ?_); rintro e w10 ⟨rfl, k5⟩; replace k5 := k4.trans (k5.mono k4.size)))
  have hP := Lib.hid (hb0.trans (k5.mono hb0.size))
  clear hS1 hS3d hV4 hSmt hRx hRs hRp hR6 hR8 k1 k2 k3 k4 k5
  go_wp2_with fail
  go_returns
  exact ⟨rfl, hP.out⟩
set_option maxRecDepth 20000 in
set_option maxHeartbeats 4000000 in
theorem parts_long (p1 p2 : Option Addr) (n1 c1 n2 c2 : Nat) (x3 x4 : Int) (h : (1000 : Int) < n2 ∨ ((n2 : Int) ≤ 1000 ∧ (100 : Int) < n1)) (w : World) (hS : ShP w) (hCv : CvP w) : Calls Tryd.prog 5 #[.slice p1 n1 c1, .slice p2 n2 c2, .int .i64 x3, .int .i64 x4] w (PostV (.bool true) w) := by
  have ha := Lib.hid (awake5_c w hS hCv)
  replace h := Lib.hid h
  clear hS hCv
  go_enter Tryd.func5, Tryd.ntmps5
  go_wp2_with fail
  refine ha.out.mono ?_
  rintro e w1 ⟨rfl, hb0⟩
  replace hb0 := Lib.hid hb0
  clear ha
  rcases h.out with h1 | ⟨h1, h2⟩
  all_goals (clear h; go_wp2; go_returns; exact ⟨rfl, hb0.out⟩)
theorem parts_any (p1 : Option Addr) (n1 c1 : Nat) (b1 : Nat → Int) (p2 : Option Addr) (n2 c2 : Nat) (b2 : Nat → Int) (x3 x4 : Int) (hr1 : Sc.Byt b1) (hr2 : Sc.Byt b2) (hc2 : n2 ≤ c2) (w : World) (hB1 : BAt w p1 n1 b1) (hB2 : BAt w p2 n2 b2) (hS : ShP w) (hCv : CvP w) : Calls Tryd.prog 5 #[.slice p1 n1 c1, .slice p2 n2 c2, .int .i64 x3, .int .i64 x4] w (PostV (.bool true) w) := by
  by_cases h : (1000 : Int) < n2 ∨ ((n2 : Int) ≤ 1000 ∧ (100 : Int) < n1)
  · exact parts_long p1 p2 n1 c1 n2 c2 x3 x4 h w hS hCv
  · exact parts_short p1 n1 c1 b1 p2 n2 c2 b2 x3 x4 (by omega) (by omega) hr1 hr2 hc2 w hB1 hB2 hS hCv
end Go.Proofs.YtigcobcpfmnhoaaDoor
namespace Go.Proofs.YtigcobcpfmnhoaaDoor
open Go.ChangeShapes Go.WideShapes Go.ChangeAt Go.WideMaps Go.WideElems Go.RowKit
set_option maxRecDepth 100000 in
theorem signParts_lifted (os : Os) (started : os.Started) (H : Type) (enc : TypeId × Value → H) :
    ReturnsInHanded {} Tryd.checked os 5 .any (fun w args => (Rows.signPartsSpec.pre enc Tryd.prog Tryd.f5 [] false w args ∧ laidMetH Tryd.prog laidS w) ∧ sizedMet enc Tryd.prog Tryd.f5 (OpenSpec.ofChange Rows.signPartsSpec) false w args)
      (Rows.signPartsSpec.post enc Tryd.prog Tryd.f5 false true false false) := by
  refine returnsInHanded_of_change_and (C := Tryd.checked) (X := fun w _ => laidMetH Tryd.prog laidS w) (fun _ _ _ hh h => h.of_heap hh) own_ started (by kernel_rfl) Tryd.func5
    (ChangeSpec.witness_shaped (enc := enc) (C := Tryd.checked) (os := os) (X := fun w _ => laidMetH Tryd.prog laidS w) false (World.doorLaid Tryd.prog 400 os) #[.slice none 0 0, .slice none 0 0, .int .i64 0, .int .i64 0] 8 rfl (World.shaped_of_RefB (by kernel_rfl) (by kernel_rfl)) (by kernel_rfl) (by kernel_rfl) (by kernel_rfl) (door_met os _)) ?_
  intro W base args ds gs before hval0 hW _ _ hL _
  have hval : ∀ (j : Nat) t v, Tryd.f5.params[j]? = some t → args[j]? = some v → Value.okWide Tryd.prog W .any base t v := hval0
  have hW' := hW
  obtain ⟨p, q, hA0, hV, rfl, hfz, hnd⟩ := hW
  have hA : DataW.TrodAll enc Tryd.prog W 0 (fun _ => true) true Tryd.f5.params.toList args.toList ds p := hA0
  rw [Tryd.params5] at hA hval
  obtain ⟨v0, v1, v2, v3, d0, d1, d2, d3, q0, q1, q2, q3, rfl, rfl, rfl, h0, h1, h2, h3⟩ := trodAll_four hA
  obtain ⟨rfl, rfl⟩ := trodVars_none hV
  have hv0 := hval 0 22 v0 rfl rfl
  have hv1 := hval 1 22 v1 rfl rfl
  have hv2 := hval 2 3 v2 rfl rfl
  have hv3 := hval 3 3 v3 rfl rfl
  clear hA0 hval0
  simp only [List.append_nil] at hW'
  obtain ⟨hCv, hS⟩ := of_laid hL
  have hlt : ∀ x ∈ q0 ++ q1 ++ q2 ++ q3, x.block < W.heap.size := fun x hx => hW'.lt x hx
  obtain ⟨a0, n0, c0, b0, rfl, hr0, hB0, hc0⟩ := open_bs hv0 h0
  obtain ⟨a1, n1, c1, b1, rfl, hr1, hB1, hc1⟩ := open_bs hv1 h1
  obtain ⟨x2, rfl⟩ := okWide_int (show Tryd.prog.underlying 3 = some (.int .i64) by kernel_rfl) hv2
  obtain ⟨x3, rfl⟩ := okWide_int (show Tryd.prog.underlying 3 = some (.int .i64) by kernel_rfl) hv3
  clear hv0 hv1 hv2 hv3
  refine (parts_any a0 n0 c0 b0 a1 n1 c1 b1 x2 x3 hr0 hr1 hc1 W hB0 hB1 hS hCv).mono fun e W' ⟨he, hb⟩ => ?_
  subst he
  exact ⟨_, rfl, post_of_below (pa := q0 ++ q1 ++ q2 ++ q3) (pv := []) hW' (fun _ _ _ => trodAll_mk1 (shut_bool bool_under true))
    (fun sp hsp => ⟨q0, (q1 ++ q2 ++ q3), WideElems.Trod_stays (by kernel_rfl) (by kernel_rfl) (of_decide_eq_true (by kernel_rfl)) h0 (fun x hx => hb.same (hlt x (by simp [hx]))) (fun x hx => hsp x (by simp [hx])), ⟨q1, (q2 ++ q3), WideElems.Trod_stays (by kernel_rfl) (by kernel_rfl) (of_decide_eq_true (by kernel_rfl)) h1 (fun x hx => hb.same (hlt x (by simp [hx]))) (fun x hx => hsp x (by simp [hx])), ⟨q2, q3, WideElems.Trod_stays (by kernel_rfl) (by kernel_rfl) (of_decide_eq_true (by kernel_rfl)) h2 (fun x hx => hb.same (hlt x (by simp [hx]))) (fun x hx => hsp x (by simp [hx])), ⟨q3, [], WideElems.Trod_stays (by kernel_rfl) (by kernel_rfl) (of_decide_eq_true (by kernel_rfl)) h3 (fun x hx => hb.same (hlt x (by simp [hx]))) (fun x hx => hsp x (by simp [hx])), rfl, by simp⟩, by simp⟩, by simp⟩, by simp⟩)
    (fun _ _ => rfl) (by simp) hb
    (ok_one (by kernel_rfl) rfl (okWide_bool_mk bool_under true))⟩
theorem signParts_row : Rows.SignPartsSaid :=
  OpenClaim.holds_of_wide 5 Tryd.f5 rfl rfl rfl rfl rfl rfl rfl ⟨rfl, rfl, rfl, rfl, rfl⟩ rfl rfl rfl rfl rfl (by kernel_rfl) Tryd.func5 (by kernel_rfl)
    (of_decide_eq_true (by kernel_rfl)) (by unfold Func.isWrapper; first | (rw [if_pos (by decide +kernel)]; kernel_rfl) | (rw [if_neg (by decide +kernel)]; exact ⟨rfl, rfl⟩))
    (fun os started H enc _ => signParts_lifted os started H enc)
theorem signParts_holds : Rows.SignPartsCardSaid :=
  Claim7.holds_tied_plain_at .later [] [.data, .data, .data, .data] true (true, "a06a5f42cf0c09f176d34a59e5acbcd267f18f753cd36d94d019ae18e5601fbf") false
    signParts_row (fun _ h => by cases h) (by kernel_rfl) (fun _ h => by cases h) signParts_row_tie rfl ⟨rfl, rfl⟩ (by kernel_rfl) rfl
    (fun f fn hf hfn => by
      obtain rfl : f = 5 := Option.some.inj ((show Tryd.prog.funcNamed "buttress/buttresslaw05.SignParts" = some 5 by kernel_rfl).symm.trans hf) |>.symm
      obtain rfl : fn = Tryd.f5 := (Option.some.inj (Tryd.func5.symm.trans hfn)).symm
      exact ⟨by kernel_rfl, fun j t ht => by
        rw [Tryd.params5] at ht
        have hm : t ∈ [22, 3] := by simpa using Array.mem_of_getElem? ht
        have hall : ([22, 3].all fun u => !Tryd.prog.wantsStandIn u) = true := by kernel_rfl
        exact (show Tryd.prog.wantsStandIn t = false by simpa using List.all_eq_true.1 hall t hm)⟩)
    (by kernel_rfl)
end Go.Proofs.YtigcobcpfmnhoaaDoor
