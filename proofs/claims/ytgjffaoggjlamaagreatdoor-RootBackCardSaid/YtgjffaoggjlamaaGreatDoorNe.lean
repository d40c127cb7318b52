/- law15: awake: the chapter's examples. SameRoot. law15: RootTexts, walked. An argument that is a root, opened. -/
import Derived.Test.YtgjffaoggjlamaaGreatDoorNd
import Derived.Test.YtgjffaoggjlamaaGreatDoorNc
import Derived.Test.YtgjffaoggjlamaaGreatDoorNb
import Derived.Deep.Cut
import Derived.Deep.RegionHeld3
import Derived.Test.YtgjffaoggjlamaaGreatDoorCv
import Derived.Test.YtgjffaoggjlamaaGreatDoorCc
namespace Go.Proofs.YtgjffaoggjlamaaGreatDoor
open Go Go.RowKit
theorem zero_byt : Sc.Byt (fun _ => 0) := fun _ => (show (0 : Int) ≤ 0 ∧ (0 : Int) < 256 by decide)
theorem one_byt : Sc.Byt Sh.oneF := fun j => by
  unfold Sh.oneF
  split <;> decide
set_option maxRecDepth 20000 in
set_option maxHeartbeats 8000000 in
theorem awake15_c (w : World) (hS : ShP w) (hCv : CvP w) : Calls Tryz.prog 23 #[] w (PostV (.bool true) w) := by
  have hB := hS.lt
  have hmk : ∀ w, (Instr.makeSlice 26 (.int .i64 32) (.int .i64 32)).run Tryz.prog w = .ok (.slice (some ⟨w.heap.size, 0, none⟩) 32 32) (w.alloc (.cells (List.replicate 32 (.int .u8 0)).toArray 5)) := fun _ => by kernel_rfl
  have hof := Lib.hid (fun w1 => of15_c 1 0 1 w1)
  have hno := Sh.other_no
  obtain ⟨F0, hF0⟩ : ∃ F, F = Sh.zeroF := ⟨_, rfl⟩
  obtain ⟨F1, hF1⟩ : ∃ F, F = Sh.oneF := ⟨_, rfl⟩
  have hr0 : Sc.Byt F0 := by rw [hF0]; exact zero_byt
  have hr1 : Sc.Byt F1 := by rw [hF1]; exact one_byt
  have hz0 : (fun _ => (0 : Int)) = F0 := hF0.symm
  unfold Sh.m1 at hno
  rw [← hF0, ← hF1] at hno
  have hyes : shT 1 0 1 64 = true := by decide
  have hyk : Sh.verI (Sh.ptI (Sh.keyP F0)) (Sh.sigI F0 [(89, txI 1 0 1 F0)]) [(89, txI 1 0 1 F0)] = true := Sh.ver_sig F0 (fun _ _ => rfl) (fun _ _ => rfl) rfl (fun _ _ => rfl)
  obtain ⟨G, hG⟩ : ∃ G, G = Sh.sigI F0 [(89, txI 1 0 1 F0)] := ⟨_, rfl⟩
  have hGr : Sc.Byt G := by rw [hG]; exact sig_byt _ _
  have hSeal := Lib.hid (fun g c gz cz w1 (h : RowB w1 g 32 c F0) (hz : RowB w1 gz 64 cz F0) (hb : Below w.heap.size w w1) => Seal_ok g 0 c 1 0 1 (some ⟨gz, 0, none⟩) cz none 0 0 F0 F0 hyes h.cap hr0 (fun j _ => hr0 j) w1 hz.bx h.bx (hS.below hb hB) (hCv.below hb hCv.lt))
  have hPut := Lib.hid (fun g1 c1 g2 c2 w1 (h1 : RowB w1 g1 64 c1 F0) (h2 : RowB w1 g2 64 c2 G) => Put_ok 1 0 1 (some ⟨g1, 0, none⟩) c1 (some ⟨g2, 0, none⟩) c2 F0 G hyes h1.cap h2.cap w1 h1.bx h2.bx)
  have hCp := Lib.hid (fun g c b w1 (h : RowB w1 g 153 c b) => copyB_c g 0 153 c b (by decide) (by decide) w1 (fun j hj => by rw [Nat.zero_add]; exact h.cell j hj))
  have hGet := Lib.hid (fun p c w1 => Get_x p 154 c w1 (fun gb w2 _ hB => get_x1 gb p 154 c (by decide) w2 hB))
  have hGet := hGet.out
  unfold PostGx rtZ at hGet
  replace hGet := Lib.hid hGet
  have hPub := Lib.hid (fun F (hF : Sc.Byt F) g c w1 (h : RowB w1 g 32 c F) (hb : Below w.heap.size w w1) => Public_c (some ⟨g, 0, none⟩) c F h.cap (fun j _ => hF j) w1 h.bx (hS.below hb hB) (by have := hb.size; omega) (hCv.below hb hCv.lt))
  have hCk1 := Lib.hid (fun gk ck g1 c1 g2 c2 w1 (hk : RowB w1 gk 32 ck (Sh.ptI (Sh.keyP F0))) (h1 : RowB w1 g1 64 c1 F0) (h2 : RowB w1 g2 64 c2 G) (hb : Below w.heap.size w w1) => Check_true gk 0 ck g2 0 c2 1 0 1 (some ⟨g1, 0, none⟩) c1 F0 (Sh.ptI (Sh.keyP F0)) G hyes h1.cap hk.cap h2.cap (key_byt F0) hGr (fun j _ => hr0 j) (by rw [hG]; exact hyk) w1 hk.lt (fun j hj => by rw [Nat.zero_add]; exact hk.cell j hj) h2.lt (fun j hj => by rw [Nat.zero_add]; exact h2.cell j hj) h1.bx (hS.below hb hB) (hCv.below hb hCv.lt))
  have hCk2 := Lib.hid (fun gk ck g1 c1 g2 c2 w1 (hk : RowB w1 gk 32 ck (Sh.ptI (Sh.keyP F1))) (h1 : RowB w1 g1 64 c1 F0) (h2 : RowB w1 g2 64 c2 G) (hb : Below w.heap.size w w1) => Check_false gk 0 ck g2 0 c2 1 0 1 (some ⟨g1, 0, none⟩) c1 F0 (Sh.ptI (Sh.keyP F1)) G hyes h1.cap hk.cap h2.cap (key_byt F1) hGr (fun j _ => hr0 j) (by rw [hG]; exact hno) w1 hk.lt (fun j hj => by rw [Nat.zero_add]; exact hk.cell j hj) h2.lt (fun j hj => by rw [Nat.zero_add]; exact h2.cell j hj) h1.bx (hS.below hb hB) (hCv.below hb hCv.lt))
  obtain ⟨RP, hRP⟩ : ∃ R, R = rpI 1 0 1 F0 G := ⟨_, rfl⟩
  have hRP0 : RP 0 = 2 := by rw [hRP]; rfl
  obtain ⟨K0, hK0⟩ : ∃ K, K = Sh.ptI (Sh.keyP F0) := ⟨_, rfl⟩
  obtain ⟨K1, hK1⟩ : ∃ K, K = Sh.ptI (Sh.keyP F1) := ⟨_, rfl⟩
  have hPub0 := hPub.out F0 hr0
  have hPub1 := hPub.out F1 hr1
  rw [← hK0] at hCk1 hPub0
  rw [← hK1] at hCk2 hPub1
  rw [← hRP] at hPut
  have hof' : ∀ w1, Calls Tryz.prog 74 #[.int .i64 1, .int .i64 0, .int .i64 1] w1 fun e w' => ∃ g, e = .returned (.agg #[.int .i64 1, .int .i64 0, .int .i64 1, .slice (some ⟨g, 0, none⟩) 64 64, .slice none 0 0]) ∧ w1.heap.size ≤ g ∧ RowB w' g 64 64 F0 ∧ Below w1.heap.size w1 w' := fun w1 => by
    rw [← hz0]; exact hof.out w1
  have hSeal' := hSeal.out
  unfold PostSt rtC at hSeal'
  rw [← hG] at hSeal'
  have hro : ∀ w1 : World, RowB (w1.alloc (.cells (List.replicate 32 (.int .u8 0)).toArray 5)) w1.heap.size 32 32 F0 := fun w1 => by rw [← hz0]; exact row_zero w1 32 (by decide)
  have hone : ∀ (w1 : World) (g c : Nat), RowB w1 g 32 c F0 → RowB (w1.setCell ⟨g, 0, none⟩ (.int .u8 1)) g 32 c F1 := fun w1 g c h => (h.set_ 0 (by decide) 1).congr (fun i _ => by rw [hF1, ← hz0]; rfl)
  replace hSeal := Lib.hid hSeal'
  replace hof := Lib.hid hof'
  replace hPub0 := Lib.hid hPub0
  replace hPub1 := Lib.hid hPub1
  have hz : ∀ W, W = ((w.alloc (.cells (List.replicate 32 (.int .u8 0)).toArray 5)).alloc (.cells (List.replicate 32 (.int .u8 0)).toArray 5)).drew → RowB W w.heap.size 32 32 F0 ∧ RowB W (w.heap.size + 1) 32 32 F0 ∧ Below w.heap.size w W := by
    rintro W rfl
    have h1 := hro w
    have h2 := hro (w.alloc (.cells (List.replicate 32 (.int .u8 0)).toArray 5))
    rw [show (w.alloc (.cells (List.replicate 32 (.int .u8 0)).toArray 5)).heap.size = w.heap.size + 1 by simp] at h2
    have hb1 : Below (w.alloc (.cells (List.replicate 32 (.int .u8 0)).toArray 5)).heap.size (w.alloc (.cells (List.replicate 32 (.int .u8 0)).toArray 5)) ((w.alloc (.cells (List.replicate 32 (.int .u8 0)).toArray 5)).alloc (.cells (List.replicate 32 (.int .u8 0)).toArray 5)).drew := ((Below.refl _ _).alloc (Nat.le_refl _) _).drew
    have hb0 : Below w.heap.size w (w.alloc (.cells (List.replicate 32 (.int .u8 0)).toArray 5)) := (Below.refl _ _).alloc (Nat.le_refl _) _
    exact ⟨h1.below hb1, h2.below (Below.refl _ _).drew, hb0.trans (hb1.mono hb0.size)⟩
  replace hz := Lib.hid hz
  replace hro := Lib.hid hro
  replace hone := Lib.hid hone
  replace hRP0 := Lib.hid hRP0
  clear hPub hF0 hF1 hr0 hr1 hno hyes hyk hG hGr hS hCv hz0 hRP hK0 hK1 hof' hSeal'
  go_enter Tryz.func23, Tryz.ntmps23
  go_upto_region 1 with fail
  go_cut [1, 2] from 9 (fun p q wx => ∃ g1 g2, p = .slice (some ⟨g1, 0, none⟩) 32 32 ∧ q = .slice (some ⟨g2, 0, none⟩) 32 32 ∧ RowB wx g1 32 32 F0 ∧ RowB wx g2 32 32 F0 ∧ g1 ≠ g2 ∧ w.heap.size ≤ g2 ∧ Below w.heap.size w wx)
  case first =>
    go_region
    all_goals
      go_wp2
      go_meet
    all_goals
      case rel => first | exact ⟨_, _, rfl, rfl, (hz.out _ rfl).1, (hz.out _ rfl).2.1, by omega, by omega, (hz.out _ rfl).2.2⟩ | exact ⟨_, _, rfl, rfl, (hz.out _ rfl).2.1, (hz.out _ rfl).1, by omega, by omega, (hz.out _ rfl).2.2⟩
  case rest =>
    obtain ⟨g1, g2, rfl, rfl, hR1, hR2, hne, hg2, hb1⟩ := hcut
    have hc2 := hR2.frozen 0
    have hx2 := hR2.cell 0 (by decide)
    replace hR1 := Lib.hid hR1
    replace hR2 := Lib.hid hR2
    replace hb1 := Lib.hid hb1
    replace hne := Lib.hid hne
    clear hz
    go_wp2_with fail
    refine calls_at (fun W2 hW => ?_)
    have k2 : RowB W2 g2 32 32 F1 := by rw [hW]; exact hone.out _ _ _ hR2.out
    have k1 : RowB W2 g1 32 32 F0 := by rw [hW]; exact hR1.out.far hne.out _
    have hb2 : Below w.heap.size w W2 := by rw [hW]; exact hb1.out.setCell hg2 _
    clear hW hc2 hx2 hR1 hR2 hb1 hg2 hne
    refine (hof.out W2).mono ?_
    rintro e w3 ⟨gz, rfl, _, kz, hb⟩
    replace k1 := Lib.hid (k1.below hb)
    replace k2 := Lib.hid (k2.below hb)
    replace hb2 := Lib.hid (hb2.trans (hb.mono hb2.size))
    replace kz := Lib.hid kz
    clear hb
    go_wp2_with fail
    refine (hSeal.out g1 32 gz 64 w3 k1.out kz.out hb2.out).mono ?_
    rintro e w4 ⟨ga, ca, gs, cs, rfl, _, _, kS, kG, hb⟩
    have hs := hb2.out.size
    replace k1 := Lib.hid (k1.out.below hb)
    replace k2 := Lib.hid (k2.out.below hb)
    replace hb2 := Lib.hid (hb2.out.trans (hb.mono hs))
    replace kS := Lib.hid kS
    replace kG := Lib.hid kG
    clear hb kz hs hSeal hof
    go_wp2_with fail
    refine calls_at (fun W5 hW => ?_)
    have hb : Below w4.heap.size w4 W5 := by rw [hW]; go_grown
    have hs := hb2.out.size
    have kT : Blk W5 w4.heap.size 28 #[.int .i64 1, .int .i64 0, .int .i64 1, .slice (some ⟨ga, 0, none⟩) 64 ca, .slice (some ⟨gs, 0, none⟩) 64 cs] := by rw [hW]; exact Blk.new _ _ _
    replace k1 := Lib.hid (k1.out.below hb)
    replace k2 := Lib.hid (k2.out.below hb)
    replace kS := Lib.hid (kS.out.below hb)
    replace kG := Lib.hid (kG.out.below hb)
    replace hb2 := Lib.hid (hb2.out.trans (hb.mono hs))
    clear hW hb hs
    obtain ⟨gT, hgT⟩ : ∃ g, g = w4.heap.size := ⟨_, rfl⟩
    rw [← hgT] at kT
    rw [← hgT]
    clear hgT
    refine (hPut.out ga ca gs cs W5 kS.out kG.out).mono ?_
    rintro e w6 ⟨gp, cp, rfl, _, kP, hb⟩
    have hs := hb2.out.size
    replace kT := Lib.hid (kT.below hb)
    replace k1 := Lib.hid (k1.out.below hb)
    replace k2 := Lib.hid (k2.out.below hb)
    replace kS := Lib.hid (kS.out.below hb)
    replace kG := Lib.hid (kG.out.below hb)
    replace hb2 := Lib.hid (hb2.out.trans (hb.mono hs))
    replace kP := Lib.hid kP
    clear hb hs hPut
    go_wp2_with fail
    refine (hCp.out gp cp RP w6 kP.out).mono ?_
    rintro e w7 ⟨gc, cc, rfl, hgc, kC, hb7⟩
    have kC2 := Lib.hid (kC.congr (f' := fun j => if j < 153 then RP j else 0) (fun j hj => (if_pos hj).symm))
    replace hb7 := Lib.hid hb7
    clear hCp kC
    go_wp2_with (at_builtin; refine wpList_app1 (B := w6.heap.size) rfl rfl rfl (fun j => if j < 153 then RP j else 0) rfl kC2.out rfl (by simp) (if_neg (by decide)).symm (by decide) hgc ?_; intro g8 c8 w8 hR8 hgr hB8 hcase)
    have hb8 : Below w6.heap.size w6 w8 := hb7.out.grown hgr hb7.out.size (fun k e => by injection e with e; subst e; exact hgc)
    clear hR8 hgr hB8 hcase kC2 hb7 hgc
    go_wp2_with fail
    refine (hGet.out _ c8 w8).mono ?_
    rintro e w9 ⟨rfl, hb⟩
    replace hb8 := hb8.trans (hb.mono hb8.size)
    clear hb hGet
    have hs := hb2.out.size
    replace kT := Lib.hid (kT.out.below hb8)
    replace k1 := Lib.hid (k1.out.below hb8)
    replace k2 := Lib.hid (k2.out.below hb8)
    replace kS := Lib.hid (kS.out.below hb8)
    replace kG := Lib.hid (kG.out.below hb8)
    replace kP := Lib.hid (kP.out.below hb8)
    replace hb2 := Lib.hid (hb2.out.trans (hb8.mono hs))
    clear hb8 hs
    go_upto_region 6 with fail
    refine at_world (fun W hW => ?_)
    have hb : Below w9.heap.size w9 W := by rw [hW]; go_grown
    clear hW
    have hs := hb2.out.size
    replace kT := kT.out.below hb
    replace k1 := Lib.hid (k1.out.below hb)
    replace k2 := Lib.hid (k2.out.below hb)
    replace kS := Lib.hid (kS.out.below hb)
    replace kG := Lib.hid (kG.out.below hb)
    replace kP := kP.out.below hb
    replace hb2 := Lib.hid (hb2.out.trans (hb.mono hs))
    clear hb hs
    have hs := Lib.hid hb2.out.size
    have hSS := Lib.hid (fun w' (hb : Below W.heap.size W w') => (⟨blk5v (kT.below hb), by have := (kP.below hb).cell 0 (by decide); rwa [hRP0.out] at this⟩ : (w'.cell? ⟨gT, 0, none⟩ = some (.int .i64 1) ∧ w'.cell? ⟨gT, 1, none⟩ = some (.int .i64 0) ∧ w'.cell? ⟨gT, 2, none⟩ = some (.int .i64 1) ∧ w'.cell? ⟨gT, 3, none⟩ = some (.slice (some ⟨ga, 0, none⟩) 64 ca) ∧ w'.cell? ⟨gT, 4, none⟩ = some (.slice (some ⟨gs, 0, none⟩) 64 cs)) ∧ w'.cell? ⟨gp, 0, none⟩ = some (.int .u8 2)))
    have h0 := Below.refl W.heap.size W
    clear kT kP hRP0
    go_region_held3 (fun w' => (w'.cell? ⟨gT, 0, none⟩ = some (.int .i64 1) ∧ w'.cell? ⟨gT, 1, none⟩ = some (.int .i64 0) ∧ w'.cell? ⟨gT, 2, none⟩ = some (.int .i64 1) ∧ w'.cell? ⟨gT, 3, none⟩ = some (.slice (some ⟨ga, 0, none⟩) 64 ca) ∧ w'.cell? ⟨gT, 4, none⟩ = some (.slice (some ⟨gs, 0, none⟩) 64 cs)) ∧ w'.cell? ⟨gp, 0, none⟩ = some (.int .u8 2)) (first | exact hSS.out _ n8 | exact hSS.out _ n6 | exact hSS.out _ n4 | exact hSS.out _ n2 | exact hSS.out _ h0 | exact hSS.out _ h0.drew) (first | (go_at_call 18; refine calls_at (fun V1 h1 => ?_); have m1 : Below W.heap.size W V1 := (by rw [h1]; go_grown); clear h1; (with_reducible refine (hPub0.out g1 32 V1 (k1.out.below m1) (hb2.out.trans (m1.mono hs.out))).mono ?_); rintro e w11 ⟨gk, ck, rfl, _, kk, hbb⟩; have n2 := m1.trans (hbb.mono m1.size); clear hbb hPub0 m1) | (go_at_call 17; refine calls_at (fun V1 h1 => ?_); have m1 : Below w11.heap.size w11 V1 := (by rw [h1]; go_grown); clear h1; have n3 := n2.trans (m1.mono n2.size); (with_reducible refine (hCk1.out gk ck ga ca gs cs V1 (kk.below m1) (kS.out.below n3) (kG.out.below n3) (hb2.out.trans (n3.mono hs.out))).mono ?_); rintro e w12 ⟨rfl, hbb⟩; have n4 := n3.trans (hbb.mono n3.size); clear hbb hCk1 m1 n3) | (go_at_call 18; refine calls_at (fun V1 h1 => ?_); have m1 : Below w12.heap.size w12 V1 := (by rw [h1]; go_grown); clear h1; have n5 := n4.trans (m1.mono n4.size); (with_reducible refine (hPub1.out g2 32 V1 (k2.out.below n5) (hb2.out.trans (n5.mono hs.out))).mono ?_); rintro e w13 ⟨gl, cl, rfl, _, kl, hbb⟩; have n6 := n5.trans (hbb.mono n5.size); clear hbb hPub1 m1 n5) | (go_at_call 17; refine calls_at (fun V1 h1 => ?_); have m1 : Below w13.heap.size w13 V1 := (by rw [h1]; go_grown); clear h1; have n7 := n6.trans (m1.mono n6.size); (with_reducible refine (hCk2.out gl cl ga ca gs cs V1 (kl.below m1) (kS.out.below n7) (kG.out.below n7) (hb2.out.trans (n7.mono hs.out))).mono ?_); rintro e w14 ⟨rfl, hbb⟩; have n8 := n7.trans (hbb.mono n7.size); clear hbb hCk2 m1 n7))
    all_goals
      have hP := Lib.hid (hb2.out.trans (n8.mono hs.out))
      clear hSS n8 n6 n4 n2 h0 hb2 hs k1 k2 kS kG
      go_wp2_with fail
      go_returns
      exact ⟨rfl, hP.out⟩
end Go.Proofs.YtgjffaoggjlamaaGreatDoor

namespace Go.Proofs.YtgjffaoggjlamaaGreatDoor
open Go Go.RowKit
set_option maxRecDepth 20000 in
set_option maxHeartbeats 8000000 in
theorem sameRoot_c (r h q : Int) (p2 : Option Addr) (n2 c2 : Nat) (p3 : Option Addr) (n3 c3 : Nat) (rb hb' qb : Int) (pb2 : Option Addr) (nb2 cb2 : Nat) (pb3 : Option Addr) (nb3 cb3 : Nat) (vs ss vsb ssb : Nat → Int) (hn2 : n2 ≤ 1000000) (hn3 : n3 ≤ 1000000) (hnb2 : nb2 ≤ 1000000) (hnb3 : nb3 ≤ 1000000) (w : World) (hV : BAt w p2 n2 vs) (hS : BAt w p3 n3 ss) (hVb : BAt w pb2 nb2 vsb) (hSb : BAt w pb3 nb3 ssb) :
    Calls Tryz.prog 29 #[.agg #[.int .i64 r, .int .i64 h, .int .i64 q, .slice p2 n2 c2, .slice p3 n3 c3], .agg #[.int .i64 rb, .int .i64 hb', .int .i64 qb, .slice pb2 nb2 cb2, .slice pb3 nb3 cb3]] w fun e w' => e = .returned (.bool (decide (r = rb) && (decide (h = hb') && (decide (q = qb) && (eqB n2 vs nb2 vsb && eqB n3 ss nb3 ssb))))) ∧ Below w.heap.size w w' := by
  have cv := fun w' hb => sameB_c p2 pb2 n2 c2 nb2 cb2 vs vsb hn2 hnb2 w' (hV.below (w := w) (w' := w') hb) (hVb.below hb)
  have csg := fun w' hb => sameB_c p3 pb3 n3 c3 nb3 cb3 ss ssb hn3 hnb3 w' (hS.below (w := w) (w' := w') hb) (hSb.below hb)
  obtain ⟨E, hE⟩ : ∃ E, E = (decide (r = rb) && (decide (h = hb') && (decide (q = qb) && (eqB n2 vs nb2 vsb && eqB n3 ss nb3 ssb)))) := ⟨_, rfl⟩
  rw [← hE]
  generalize eqB n2 vs nb2 vsb = e2 at *
  generalize eqB n3 ss nb3 ssb = e3 at *
  replace cv := Lib.hid cv
  replace csg := Lib.hid csg
  clear hV hS hVb hSb hn2 hn3 hnb2 hnb3
  go_enter Tryz.func29, Tryz.ntmps29
  by_cases h1 : r = rb
  · rw [decide_eq_true h1, Bool.true_and] at hE
    subst h1
    by_cases h2 : h = hb'
    · rw [decide_eq_true h2, Bool.true_and] at hE
      subst h2
      by_cases h3 : q = qb
      · rw [decide_eq_true h3, Bool.true_and] at hE
        subst h3
        replace hE := Lib.hid hE
        go_wp2_with fail
        refine calls_at (fun W0 hW => ?_)
        have hA : Blk W0 w.heap.size 28 #[.int .i64 r, .int .i64 h, .int .i64 q, .slice p2 n2 c2, .slice p3 n3 c3] := by rw [hW]; exact (Blk.new _ _ _).alloc _
        have hB : Blk W0 (w.heap.size + 1) 28 #[.int .i64 r, .int .i64 h, .int .i64 q, .slice pb2 nb2 cb2, .slice pb3 nb3 cb3] := by rw [hW]; exact blk_at (by simp) (Blk.new _ _ _)
        have hb0 : Below w.heap.size w W0 := by rw [hW]; go_grown
        clear hW
        refine (cv.out _ hb0).mono ?_
        rintro e w1 ⟨rfl, hb⟩
        replace hA := hA.below hb
        replace hB := hB.below hb
        replace hb0 := hb0.trans (hb.mono hb0.size)
        clear hb cv
        obtain ⟨y0, y1, y2, y3, y4⟩ := blk5v hA
        obtain ⟨z0, z1, z2, z3, z4⟩ := blk5v hB
        cases e2
        · rw [Bool.false_and] at hE
          go_wp2
          go_returns
          exact ⟨by rw [hE.out]; rfl, hb0⟩
        · rw [Bool.true_and] at hE
          go_wp2_with fail
          clear y0 y1 y2 y3 y4 z0 z1 z2 z3 z4
          refine (csg.out _ hb0).mono ?_
          rintro e w2 ⟨rfl, hb⟩
          replace hb0 := hb0.trans (hb.mono hb0.size)
          clear hb csg
          cases e3
          · go_wp2
            go_returns
            exact ⟨by rw [hE.out]; rfl, hb0⟩
          · go_wp2
            go_returns
            exact ⟨by rw [hE.out]; rfl, hb0⟩
      · rw [decide_eq_false h3, Bool.false_and] at hE
        replace hE := Lib.hid hE
        have hb0 := Lib.hid (show Below w.heap.size w ((w.alloc (.cells #[.int .i64 r, .int .i64 h, .int .i64 q, .slice p2 n2 c2, .slice p3 n3 c3] 28)).alloc (.cells #[.int .i64 r, .int .i64 h, .int .i64 qb, .slice pb2 nb2 cb2, .slice pb3 nb3 cb3] 28)) by go_grown)
        go_wp2
        go_returns
        exact ⟨by rw [hE.out]; rfl, hb0.out⟩
    · rw [decide_eq_false h2, Bool.false_and] at hE
      replace hE := Lib.hid hE
      have hb0 := Lib.hid (show Below w.heap.size w ((w.alloc (.cells #[.int .i64 r, .int .i64 h, .int .i64 q, .slice p2 n2 c2, .slice p3 n3 c3] 28)).alloc (.cells #[.int .i64 r, .int .i64 hb', .int .i64 qb, .slice pb2 nb2 cb2, .slice pb3 nb3 cb3] 28)) by go_grown)
      go_wp2
      go_returns
      exact ⟨by rw [hE.out]; rfl, hb0.out⟩
  · rw [decide_eq_false h1, Bool.false_and] at hE
    replace hE := Lib.hid hE
    have hb0 := Lib.hid (show Below w.heap.size w ((w.alloc (.cells #[.int .i64 r, .int .i64 h, .int .i64 q, .slice p2 n2 c2, .slice p3 n3 c3] 28)).alloc (.cells #[.int .i64 rb, .int .i64 hb', .int .i64 qb, .slice pb2 nb2 cb2, .slice pb3 nb3 cb3] 28)) by go_grown)
    go_wp2
    go_returns
    exact ⟨by rw [hE.out]; rfl, hb0.out⟩
end Go.Proofs.YtgjffaoggjlamaaGreatDoor

namespace Go.Proofs.YtgjffaoggjlamaaGreatDoor
open Go Go.RowKit
/-- what Text tells, in one form -/
def PostTn (E : Bool) (T : Nat → Int) (w : World) (e : Ending) (w' : World) : Prop := ∃ p n c, e = .returned (.slice p n c) ∧ (E = true → n = 89 ∧ ∃ g, p = some ⟨g, 0, none⟩ ∧ w.heap.size ≤ g ∧ RowB w' g 89 c T) ∧ (E = false → n = 0) ∧ Below w.heap.size w w'
theorem Text_n (r h q : Int) (p1 : Option Addr) (n1 c1 : Nat) (p2 : Option Addr) (n2 c2 : Nat) (S : Nat → Int) (hc1 : n1 ≤ c1) (w : World) (hS : BX [] w p1 n1 S) :
    Calls Tryz.prog 31 #[.agg #[.int .i64 r, .int .i64 h, .int .i64 q, .slice p1 n1 c1, .slice p2 n2 c2]] w (PostTn (shT r h q n1) (txI r h q S) w) := by
  refine (Text_c r h q p1 n1 c1 p2 n2 c2 S hc1 w hS).mono fun e w' k => ?_
  unfold PostTx at k
  cases e1 : shT r h q n1 with
  | true =>
    rw [e1] at k
    obtain ⟨g, c, rfl, hg, hR, hb⟩ := k
    exact ⟨_, _, _, rfl, fun _ => ⟨rfl, g, rfl, hg, hR⟩, fun h => (by cases h), hb⟩
  | false =>
    rw [e1] at k
    obtain ⟨rfl, hb⟩ := k
    exact ⟨_, _, _, rfl, fun h => (by cases h), fun _ => rfl, hb⟩
set_option maxRecDepth 20000 in
set_option maxHeartbeats 8000000 in
theorem texts_big (r s q : Int) (p1 : Option Addr) (n1 c1 : Nat) (p2 : Option Addr) (n2 c2 : Nat) (r' s' q' : Int) (p3 : Option Addr) (n3 c3 : Nat) (p4 : Option Addr) (n4 c4 : Nat) (hg : (decide (1000 < n1) || decide (1000 < n2)) = true ∨ ((decide (1000 < n1) || decide (1000 < n2)) = false ∧ (decide (1000 < n3) || decide (1000 < n4)) = true)) (w : World) (hS : ShP w) (hCv : CvP w) :
    Calls Tryz.prog 5 #[.agg #[.int .i64 r, .int .i64 s, .int .i64 q, .slice p1 n1 c1, .slice p2 n2 c2], .agg #[.int .i64 r', .int .i64 s', .int .i64 q', .slice p3 n3 c3, .slice p4 n4 c4]] w (PostV (.bool true) w) := by
  have hB := hS.lt
  have ha := Lib.hid (fun w1 (hb : Below w.heap.size w w1) => awake15_c w1 (hS.below hb hB) (hCv.below hb hCv.lt))
  have hga := fun w1 => great15_c r s q p1 n1 c1 p2 n2 c2 w1
  have hgb := fun w1 => great15_c r' s' q' p3 n3 c3 p4 n4 c4 w1
  generalize (decide (1000 < n1) || decide (1000 < n2)) = e1 at *
  generalize (decide (1000 < n3) || decide (1000 < n4)) = e2 at *
  replace hga := Lib.hid hga
  replace hgb := Lib.hid hgb
  replace hg := Lib.hid hg
  clear hS hCv
  go_enter Tryz.func5, Tryz.ntmps5
  go_wp2_with fail
  refine calls_at (fun W0 hW => ?_)
  have hA : Blk W0 w.heap.size 28 #[.int .i64 r, .int .i64 s, .int .i64 q, .slice p1 n1 c1, .slice p2 n2 c2] := by rw [hW]; exact (Blk.new _ _ _).alloc _
  have hA2 : Blk W0 (w.heap.size + 1) 28 #[.int .i64 r', .int .i64 s', .int .i64 q', .slice p3 n3 c3, .slice p4 n4 c4] := by rw [hW]; exact blk_at (by simp) (Blk.new _ _ _)
  have hb0 : Below w.heap.size w W0 := by rw [hW]; go_grown
  clear hW
  refine (ha.out _ hb0).mono ?_
  rintro e w1 ⟨rfl, hb⟩
  replace hA := hA.below hb
  replace hA2 := hA2.below hb
  replace hb0 := hb0.trans (hb.mono hb0.size)
  clear hb ha
  obtain ⟨y0, y1, y2, y3, y4⟩ := blk5v hA
  obtain ⟨z0, z1, z2, z3, z4⟩ := blk5v hA2
  go_wp2_with fail
  refine (hga.out w1).mono ?_
  rintro e w2 ⟨rfl, hb⟩
  replace hA := hA.below hb
  replace hA2 := hA2.below hb
  replace hb0 := hb0.trans (hb.mono hb0.size)
  clear hb hga y0 y1 y2 y3 y4 z0 z1 z2 z3 z4
  rcases hg.out with h1 | ⟨h1, h2⟩
  · subst h1
    clear hg hgb hA hA2
    go_wp2_with fail
    go_returns
    exact ⟨rfl, hb0⟩
  · subst h1 h2
    obtain ⟨z0, z1, z2, z3, z4⟩ := blk5v hA2
    clear hg
    go_wp2_with fail
    refine (hgb.out w2).mono ?_
    rintro e w3 ⟨rfl, hb⟩
    replace hb0 := hb0.trans (hb.mono hb0.size)
    clear hb hgb z0 z1 z2 z3 z4 hA hA2
    go_wp2_with fail
    go_returns
    exact ⟨rfl, hb0⟩
set_option maxRecDepth 20000 in
set_option maxHeartbeats 8000000 in
theorem texts_small (r s q : Int) (p1 : Option Addr) (n1 c1 : Nat) (p2 : Option Addr) (n2 c2 : Nat) (r' s' q' : Int) (p3 : Option Addr) (n3 c3 : Nat) (p4 : Option Addr) (n4 c4 : Nat) (S1 S2 : Nat → Int) (hg1 : (decide (1000 < n1) || decide (1000 < n2)) = false) (hg2 : (decide (1000 < n3) || decide (1000 < n4)) = false) (hc1 : n1 ≤ c1) (hc3 : n3 ≤ c3) (w : World) (hX1 : BX [] w p1 n1 S1) (hX2 : BX [] w p3 n3 S2) (hS : ShP w) (hCv : CvP w) :
    Calls Tryz.prog 5 #[.agg #[.int .i64 r, .int .i64 s, .int .i64 q, .slice p1 n1 c1, .slice p2 n2 c2], .agg #[.int .i64 r', .int .i64 s', .int .i64 q', .slice p3 n3 c3, .slice p4 n4 c4]] w (PostV (.bool true) w) := by
  have hB := hS.lt
  have ha := Lib.hid (fun w1 (hb : Below w.heap.size w w1) => awake15_c w1 (hS.below hb hB) (hCv.below hb hCv.lt))
  have hga := fun w1 => great15_c r s q p1 n1 c1 p2 n2 c2 w1
  have hgb := fun w1 => great15_c r' s' q' p3 n3 c3 p4 n4 c4 w1
  rw [hg1] at hga
  rw [hg2] at hgb
  have hTa := fun w1 (hb : Below w.heap.size w w1) => Text_n r s q p1 n1 c1 p2 n2 c2 S1 hc1 w1 (hX1.below hb)
  have hTb := fun w1 (hb : Below w.heap.size w w1) => Text_n r' s' q' p3 n3 c3 p4 n4 c4 S2 hc3 w1 (hX2.below hb)
  have hsb := fun g g' c c' w1 (h : RowB w1 g 89 c (txI r s q S1)) (h' : RowB w1 g' 89 c' (txI r' s' q' S2)) => sameB_c (some ⟨g, 0, none⟩) (some ⟨g', 0, none⟩) 89 c 89 c' (txI r s q S1) (txI r' s' q' S2) (by decide) (by decide) w1 (h.bat (Nat.le_refl _)) (h'.bat (Nat.le_refl _))
  have hn1 : n1 ≤ 1000 := by simp at hg1; omega
  have hn3 : n3 ≤ 1000 := by simp at hg2; omega
  have hsr := fun w1 (hb : Below w.heap.size w w1) => sameRoot_c r s q p1 n1 c1 none 0 0 r' s' q' p3 n3 c3 none 0 0 S1 (fun _ => 0) S2 (fun _ => 0) (by omega) (by decide) (by omega) (by decide) w1 (hX1.below hb).bat (fun h => absurd h (by decide)) (hX2.below hb).bat (fun h => absurd h (by decide))
  obtain ⟨T1, hT1⟩ : ∃ T, T = txI r s q S1 := ⟨_, rfl⟩
  obtain ⟨T2, hT2⟩ : ∃ T, T = txI r' s' q' S2 := ⟨_, rfl⟩
  have hT0 : T1 0 = 2 := by rw [hT1]; rfl
  have hte : shT r s q n1 = true → shT r' s' q' n3 = true → (decide (r = r') && (decide (s = s') && (decide (q = q') && (eqB n1 S1 n3 S2 && eqB 0 (fun _ => 0) 0 (fun _ => 0))))) = eqB 89 T1 89 T2 := fun e1 e2 => by
    have h1 := (shT_true e1).2.2.2.2.2.2
    have h2 := (shT_true e2).2.2.2.2.2.2
    rw [hT1, hT2, tx_eq e1 e2, h1, h2, show eqB 0 (fun _ => 0) 0 (fun _ => 0) = true from decide_eq_true ⟨rfl, fun _ h => absurd h (Nat.not_lt_zero _)⟩]
  generalize (decide (r = r') && (decide (s = s') && (decide (q = q') && (eqB n1 S1 n3 S2 && eqB 0 (fun _ => 0) 0 (fun _ => 0))))) = ER at *
  rw [← hT1] at hTa
  rw [← hT2] at hTb
  rw [← hT1, ← hT2] at hsb
  generalize eqB 89 T1 89 T2 = EB at *
  generalize shT r s q n1 = ea at *
  generalize shT r' s' q' n3 = eb at *
  replace hga := Lib.hid hga
  replace hgb := Lib.hid hgb
  replace hTa := Lib.hid hTa
  replace hTb := Lib.hid hTb
  replace hsb := Lib.hid hsb
  replace hsr := Lib.hid hsr
  replace hte := Lib.hid hte
  replace hT0 := Lib.hid hT0
  clear hS hCv hg1 hg2 hX1 hX2 hT1 hT2 hc1 hc3 hn1 hn3
  go_enter Tryz.func5, Tryz.ntmps5
  go_wp2_with fail
  refine calls_at (fun W0 hW => ?_)
  have hA : Blk W0 w.heap.size 28 #[.int .i64 r, .int .i64 s, .int .i64 q, .slice p1 n1 c1, .slice p2 n2 c2] := by rw [hW]; exact (Blk.new _ _ _).alloc _
  have hA2 : Blk W0 (w.heap.size + 1) 28 #[.int .i64 r', .int .i64 s', .int .i64 q', .slice p3 n3 c3, .slice p4 n4 c4] := by rw [hW]; exact blk_at (by simp) (Blk.new _ _ _)
  have hb0 : Below w.heap.size w W0 := by rw [hW]; go_grown
  clear hW
  refine (ha.out _ hb0).mono ?_
  rintro e w1 ⟨rfl, hb⟩
  replace hA := hA.below hb
  replace hA2 := hA2.below hb
  replace hb0 := hb0.trans (hb.mono hb0.size)
  clear hb ha
  obtain ⟨y0, y1, y2, y3, y4⟩ := blk5v hA
  obtain ⟨z0, z1, z2, z3, z4⟩ := blk5v hA2
  go_wp2_with fail
  refine (hga.out w1).mono ?_
  rintro e w2 ⟨rfl, hb⟩
  replace hA := hA.below hb
  replace hA2 := hA2.below hb
  replace hb0 := hb0.trans (hb.mono hb0.size)
  clear hb hga y0 y1 y2 y3 y4 z0 z1 z2 z3 z4
  obtain ⟨z0, z1, z2, z3, z4⟩ := blk5v hA2
  go_wp2_with fail
  refine (hgb.out w2).mono ?_
  rintro e w3 ⟨rfl, hb⟩
  replace hA := hA.below hb
  replace hA2 := hA2.below hb
  replace hb0 := hb0.trans (hb.mono hb0.size)
  clear hb hgb z0 z1 z2 z3 z4
  go_wp2_with fail
  generalize hga : w.heap.size = ga at *
  generalize hga2 : ga + 1 = ga2 at *
  have hs3 : ga ≤ w3.heap.size := by have := hb0.size; omega
  go_region_held3 (fun w' => (w'.cell? ⟨ga, 0, none⟩ = some (.int .i64 r) ∧ w'.cell? ⟨ga, 1, none⟩ = some (.int .i64 s) ∧ w'.cell? ⟨ga, 2, none⟩ = some (.int .i64 q) ∧ w'.cell? ⟨ga, 3, none⟩ = some (.slice p1 n1 c1) ∧ w'.cell? ⟨ga, 4, none⟩ = some (.slice p2 n2 c2)) ∧ (w'.cell? ⟨ga2, 0, none⟩ = some (.int .i64 r') ∧ w'.cell? ⟨ga2, 1, none⟩ = some (.int .i64 s') ∧ w'.cell? ⟨ga2, 2, none⟩ = some (.int .i64 q') ∧ w'.cell? ⟨ga2, 3, none⟩ = some (.slice p3 n3 c3) ∧ w'.cell? ⟨ga2, 4, none⟩ = some (.slice p4 n4 c4))) (first | exact ⟨blk5v hA5, blk5v hB5⟩ | exact ⟨blk5v hA4, blk5v hB4⟩ | exact ⟨blk5v hA, blk5v hA2⟩ | exact ⟨blk5v hA.drew, blk5v hA2.drew⟩) (first | (go_at_call 31; refine calls_at (fun W4 hW4 => ?_); have hb4 : Below w3.heap.size w3 W4 := (by rw [hW4]; go_grown); clear hW4; (with_reducible refine (hTa.out W4 (hb0.trans (hb4.mono hs3))).mono ?_); rintro e w4 ⟨p5, n5, c5, rfl, hy5, hn5, hbb⟩; replace hb4 := hb4.trans (hbb.mono hb4.size); have hA4 := hA.below hb4; have hB4 := hA2.below hb4; clear hbb hTa) | (go_at_call 31; refine calls_at (fun W5 hW5 => ?_); have hb5 : Below w4.heap.size w4 W5 := (by rw [hW5]; go_grown); clear hW5; (with_reducible refine (hTb.out W5 (hb0.trans ((hb4.trans (hb5.mono hb4.size)).mono hs3))).mono ?_); rintro e w5 ⟨p6, n6, c6, rfl, hy6, hn6, hbb⟩; replace hb5 := hb5.trans (hbb.mono hb5.size); have hA5 := hA4.below hb5; have hB5 := hB4.below hb5; clear hbb hTb))
  all_goals
    have hb05 := hb0.trans ((hb4.trans (hb5.mono hb4.size)).mono hs3)
    have hs5 : ga ≤ w5.heap.size := by have := hb05.size; omega
    replace hy5 := Lib.hid hy5
    replace hy6 := Lib.hid hy6
    replace hn5 := Lib.hid hn5
    replace hn6 := Lib.hid hn6
    by_cases h5 : n5 = 0
    · subst h5
      subst hga
      clear hA hA2 hA4 hB4 hA5 hB5
      go_wp2_with fail
      go_returns
      exact ⟨rfl, hb05⟩
    by_cases h6 : n6 = 0
    · subst h6
      have i5 : ¬ (n5 : Int) = 0 := by omega
      subst hga
      clear hA hA2 hA4 hB4 hA5 hB5 h5
      go_wp2_with fail
      go_returns
      exact ⟨rfl, hb05⟩
    have e5 : ea = true := by
      cases ea
      · exact absurd (hn5.out rfl) h5
      · rfl
    have e6 : eb = true := by
      cases eb
      · exact absurd (hn6.out rfl) h6
      · rfl
    obtain ⟨rfl, g5, rfl, _, k5⟩ := hy5.out e5
    obtain ⟨rfl, g6, rfl, _, k6⟩ := hy6.out e6
    have hE := hte.out e5 e6
    subst hE
    replace k5 := Lib.hid (k5.below hb5)
    replace k6 := Lib.hid k6
    clear hn5 hn6 hy5 hy6 hte e5 e6 h5 h6 hA hA2 hA4 hB4 hb4 hb5 hb0 hs3
    go_upto_region 8 with fail
    go_cut [7, 8] from 9 (fun u v wx => ∃ g7 g8, u = .pointer (some ⟨g7, 0, none⟩) ∧ v = .pointer (some ⟨g8, 0, none⟩) ∧ Blk wx g7 28 #[.int .i64 r, .int .i64 s, .int .i64 q, .slice p1 n1 c1, .slice p2 n2 c2] ∧ Blk wx g8 28 #[.int .i64 r', .int .i64 s', .int .i64 q', .slice p3 n3 c3, .slice p4 n4 c4] ∧ g7 ≠ g8 ∧ w5.heap.size ≤ g7 ∧ w5.heap.size ≤ g8 ∧ Below w5.heap.size w5 wx)
    case first =>
      obtain ⟨y0, y1, y2, y3, y4⟩ := blk5v hA5
      obtain ⟨z0, z1, z2, z3, z4⟩ := blk5v hB5
      have l1 := hA5.lt
      have l2 := hB5.lt
      go_region
      all_goals
        go_wp2
        go_meet
      all_goals
        case rel => first | exact ⟨_, _, rfl, rfl, ((Blk.new _ _ _).alloc _).drew, (blk_at (by simp) (Blk.new _ _ _)).drew, by omega, by omega, by omega, by go_grown⟩ | exact ⟨_, _, rfl, rfl, (blk_at (by simp) (Blk.new _ _ _)).drew, ((Blk.new _ _ _).alloc _).drew, by omega, by omega, by omega, by go_grown⟩
    case rest =>
      obtain ⟨g7, g8, rfl, rfl, hC, hD, hne, h7, h8, hb6⟩ := hcut
      have x7 := hC.frozen 4
      have x8 := hD.frozen 4
      have y7 := hC.cell 4
      have y8 := hD.cell 4
      go_upto_region 11 with fail
      refine at_world (fun W hW => ?_)
      have hC2 : Blk W g7 28 #[.int .i64 r, .int .i64 s, .int .i64 q, .slice p1 n1 c1, .slice none 0 0] := by rw [hW]; exact (hC.set_ 4 _).far hne _
      have hD2 : Blk W g8 28 #[.int .i64 r', .int .i64 s', .int .i64 q', .slice p3 n3 c3, .slice none 0 0] := by rw [hW]; exact (hD.far (fun e => hne e.symm) _).set_ 4 _
      have hbW : Below w5.heap.size w5 W := by rw [hW]; exact (hb6.setCell h7 _).setCell h8 _
      clear hW hC hD x7 x8 y7 y8 hb6 h7 h8 hne hA5 hB5
      have k5W := k5.out.below hbW
      replace k6 := Lib.hid (k6.out.below hbW)
      have hbT := Lib.hid (hb05.trans (hbW.mono hs5))
      have hsT : ga ≤ W.heap.size := Nat.le_trans hs5 hbW.size
      have hSS := Lib.hid (fun w' (hb : Below W.heap.size W w') => (⟨blk5v (hC2.below hb), blk5v (hD2.below hb), by have := (k5W.below hb).cell 0 (by decide); rwa [hT0.out] at this⟩ : (w'.cell? ⟨g7, 0, none⟩ = some (.int .i64 r) ∧ w'.cell? ⟨g7, 1, none⟩ = some (.int .i64 s) ∧ w'.cell? ⟨g7, 2, none⟩ = some (.int .i64 q) ∧ w'.cell? ⟨g7, 3, none⟩ = some (.slice p1 n1 c1) ∧ w'.cell? ⟨g7, 4, none⟩ = some (.slice none 0 0)) ∧ (w'.cell? ⟨g8, 0, none⟩ = some (.int .i64 r') ∧ w'.cell? ⟨g8, 1, none⟩ = some (.int .i64 s') ∧ w'.cell? ⟨g8, 2, none⟩ = some (.int .i64 q') ∧ w'.cell? ⟨g8, 3, none⟩ = some (.slice p3 n3 c3) ∧ w'.cell? ⟨g8, 4, none⟩ = some (.slice none 0 0)) ∧ w'.cell? ⟨g5, 0, none⟩ = some (.int .u8 2)))
      have h0 := Below.refl W.heap.size W
      replace k5 := Lib.hid k5W
      clear k5W hC2 hD2 hbW hb05 hs5 hT0
      go_region_held3 (fun w' => (w'.cell? ⟨g7, 0, none⟩ = some (.int .i64 r) ∧ w'.cell? ⟨g7, 1, none⟩ = some (.int .i64 s) ∧ w'.cell? ⟨g7, 2, none⟩ = some (.int .i64 q) ∧ w'.cell? ⟨g7, 3, none⟩ = some (.slice p1 n1 c1) ∧ w'.cell? ⟨g7, 4, none⟩ = some (.slice none 0 0)) ∧ (w'.cell? ⟨g8, 0, none⟩ = some (.int .i64 r') ∧ w'.cell? ⟨g8, 1, none⟩ = some (.int .i64 s') ∧ w'.cell? ⟨g8, 2, none⟩ = some (.int .i64 q') ∧ w'.cell? ⟨g8, 3, none⟩ = some (.slice p3 n3 c3) ∧ w'.cell? ⟨g8, 4, none⟩ = some (.slice none 0 0)) ∧ w'.cell? ⟨g5, 0, none⟩ = some (.int .u8 2)) (first | exact hSS.out _ n4 | exact hSS.out _ n2 | exact hSS.out _ h0 | exact hSS.out _ h0.drew) (first | (go_at_call 28; refine calls_at (fun V1 h1 => ?_); have m1 : Below W.heap.size W V1 := (by rw [h1]; go_grown); clear h1; (with_reducible refine (hsb.out g5 g6 c5 c6 V1 (k5.out.below m1) (k6.out.below m1)).mono ?_); rintro e w11 ⟨rfl, hbb⟩; have n2 := m1.trans (hbb.mono m1.size); clear hbb hsb m1) | (go_at_call 29; refine calls_at (fun V1 h1 => ?_); have m1 : Below w11.heap.size w11 V1 := (by rw [h1]; go_grown); clear h1; have n3 := n2.trans (m1.mono n2.size); (with_reducible refine (hsr.out V1 (hbT.out.trans (n3.mono hsT))).mono ?_); rintro e w12 ⟨rfl, hbb⟩; have n4 := n3.trans (hbb.mono n3.size); clear hbb hsr m1 n3))
      all_goals
        have hP := Lib.hid (hbT.out.trans (n4.mono hsT))
        subst hga
        clear hSS n4 n2 h0 hbT k5 k6
        cases ER
        all_goals
          go_wp2_with fail
          go_returns
          exact ⟨rfl, hP.out⟩
end Go.Proofs.YtgjffaoggjlamaaGreatDoor

namespace Go.Proofs.YtgjffaoggjlamaaGreatDoor
open Go.ChangeShapes Go.WideShapes Go.ChangeAt Go.WideMaps Go.WideElems Go.RowKit
section
variable {H : Type} {enc : TypeId × Value → H} {W : World} {base : Nat} {sp : Nat → Bool}
theorem list5 {α : Type} {cs : List α} (h : cs.length = 5) : ∃ a b c d e, cs = [a, b, c, d, e] := by
  match cs, h with
  | [a, b, c, d, e], _ => exact ⟨a, b, c, d, e, rfl⟩
set_option maxRecDepth 100000 in
/-- a field of bytes is opened -/
theorem open_bsf {fuel : Nat} {y : Value} {r : DataW H × List MemPlace} (hf : DataW.trod enc Tryz.prog W base sp true fuel 26 [y] = some r) :
    ∃ p n c b, y = .slice p n c ∧ (∀ j, 0 ≤ b j ∧ b j < 256) ∧ BAt W p n b ∧ n ≤ c := by
  rcases open_ints bs_underK u8_under u8_cells hf with ⟨hcs, hx⟩ | ⟨a, len', cap', zs, hcs, _, hl, hm, hz, hx, hcell, hwz⟩
  · simp at hcs
    subst hcs
    exact ⟨none, 0, 0, fun _ => 0, rfl, fun _ => ⟨Int.le_refl _, show (0 : Int) < 256 by decide⟩, fun h => absurd h (by decide), Nat.le_refl _⟩
  simp at hcs
  subst hcs
  have hlz : len' ≤ zs.length := by rw [hz]; split <;> omega
  refine ⟨some a, len', cap', fun j => zs.getD j 0, rfl, fun j => by
    have := range_u8 hwz j
    show 0 ≤ zs.getD j 0 ∧ zs.getD j 0 < 256
    rw [List.getD_eq_getElem?_getD]
    omega, fun hpos => ?_, hl⟩
  obtain ⟨ab, ao, spot⟩ := a
  have hc1 := hcell 0 (by omega)
  have hspot : spot = none := by simpa [Addr.add] using World.cell?_spot hc1
  subst hspot
  refine ⟨ab, ao, rfl, ?_, fun j hj => ?_⟩
  · rcases Nat.lt_or_ge ab W.heap.size with h | h
    · exact h
    rw [add_o] at hc1
    simp only [World.cell?, Array.getElem?_eq_none h] at hc1
    cases hc1
  have := hcell j (by omega)
  rwa [add_o] at this
set_option maxRecDepth 20000 in
theorem open_root {v : Value} {d : DataW H} {ps : List MemPlace} {rr : Reach} {b0 : Nat} (hval : Value.okWide Tryz.prog W rr b0 28 v) (h : DataW.Trod enc Tryz.prog W base sp true 28 v d ps) :
    ∃ r h q p2 n2 c2 p3 n3 c3 S G, v = .agg #[.int .i64 r, .int .i64 h, .int .i64 q, .slice p2 n2 c2, .slice p3 n3 c3] ∧ (∀ j, 0 ≤ S j ∧ S j < 256) ∧ BAt W p2 n2 S ∧ n2 ≤ c2 ∧ (∀ j, 0 ≤ G j ∧ G j < 256) ∧ BAt W p3 n3 G ∧ n3 ≤ c3 := by
  have int_under : Tryz.prog.underlying 3 = some (.int .i64) := by kernel_rfl
  obtain ⟨cs, rfl, hcs⟩ := okWide_struct Tryz.underlying28 hval
  obtain ⟨fuel, hf⟩ := h
  obtain ⟨xs, n, _, _, hl, hx, hfl⟩ := DataW.trod_struct Tryz.underlying28 hf
  have h5 : Tryz.prog.cellsOf 28 = 5 := by kernel_rfl
  rw [h5] at hl
  obtain ⟨a, b, c, e, f, hcs5⟩ := list5 hl
  rw [hcs5] at hfl
  have hget : ∀ i, i < 5 → ∃ y, xs[i]? = some y := fun i hi => ⟨xs[i]'(by rw [hx]; exact hi), List.getElem?_eq_getElem _⟩
  obtain ⟨y0, e0⟩ := hget 0 (by decide)
  obtain ⟨y1, e1⟩ := hget 1 (by decide)
  obtain ⟨y2, e2⟩ := hget 2 (by decide)
  obtain ⟨y3, e3⟩ := hget 3 (by decide)
  obtain ⟨y4, e4⟩ := hget 4 (by decide)
  have c3 : Tryz.prog.cellsOf 3 = 1 := by kernel_rfl
  have c23 : Tryz.prog.cellsOf 26 = 1 := by kernel_rfl
  have t0 : DataW.trod enc Tryz.prog W base sp true n 3 (List.take (Tryz.prog.cellsOf 3) (List.drop 0 [a, b, c, e, f])) = some y0 := (hfl 0 _ rfl).trans e0
  rw [c3] at t0
  change DataW.trod enc Tryz.prog W base sp true n 3 [a] = some y0 at t0
  have t1 : DataW.trod enc Tryz.prog W base sp true n 3 (List.take (Tryz.prog.cellsOf 3) (List.drop 1 [a, b, c, e, f])) = some y1 := (hfl 1 _ rfl).trans e1
  rw [c3] at t1
  change DataW.trod enc Tryz.prog W base sp true n 3 [b] = some y1 at t1
  have t2 : DataW.trod enc Tryz.prog W base sp true n 3 (List.take (Tryz.prog.cellsOf 3) (List.drop 2 [a, b, c, e, f])) = some y2 := (hfl 2 _ rfl).trans e2
  rw [c3] at t2
  change DataW.trod enc Tryz.prog W base sp true n 3 [c] = some y2 at t2
  have t5 : DataW.trod enc Tryz.prog W base sp true n 26 (List.take (Tryz.prog.cellsOf 26) (List.drop 3 [a, b, c, e, f])) = some y3 := (hfl 3 _ rfl).trans e3
  rw [c23] at t5
  change DataW.trod enc Tryz.prog W base sp true n 26 [e] = some y3 at t5
  have t6 : DataW.trod enc Tryz.prog W base sp true n 26 (List.take (Tryz.prog.cellsOf 26) (List.drop 4 [a, b, c, e, f])) = some y4 := (hfl 4 _ rfl).trans e4
  rw [c23] at t6
  change DataW.trod enc Tryz.prog W base sp true n 26 [f] = some y4 at t6
  obtain ⟨r, hr, _⟩ := DataW.trod_int int_under t0
  obtain ⟨h, hh, _⟩ := DataW.trod_int int_under t1
  obtain ⟨q, hq, _⟩ := DataW.trod_int int_under t2
  obtain ⟨p2, n2, c2, S, hv, hSr, hV, hn2⟩ := open_bsf t5
  obtain ⟨p3, n3, c3', G, hs, hGr, hS, hn3⟩ := open_bsf t6
  simp only [List.cons.injEq, and_true] at hr hh hq
  subst hr hh hq hv hs
  refine ⟨r, h, q, p2, n2, c2, p3, n3, c3', S, G, ?_, hSr, hV, hn2, hGr, hS, hn3⟩
  rw [show cs = #[.int .i64 r, .int .i64 h, .int .i64 q, .slice p2 n2 c2, .slice p3 n3 c3'] from by
    have : cs.toList = _ := hcs5
    exact Array.toList_inj.1 this]
end
theorem BAt.bx {w : World} {p : Option Addr} {n : Nat} {b : Nat → Int} (h : BAt w p n b) : BX [] w p n b := fun h0 => by
  obtain ⟨g, o, e, hg, hc⟩ := h h0
  exact ⟨g, o, e, hg, by simp, hc⟩
end Go.Proofs.YtgjffaoggjlamaaGreatDoor
