/- law16: EvidenceBack, walked. -/
import Derived.Test.YtgjffaoggjlamaaGreatDoorUg
import Derived.Deep.CutRange
namespace Go.Proofs.YtgjffaoggjlamaaGreatDoor
open Go Go.RowKit
theorem shk16 {r s q : Int} (h1 : 1 ≤ r ∧ r ≤ 7) (h2 : 0 ≤ s ∧ s ≤ 3) (h3 : 1 ≤ q ∧ q ≤ 1073741824) : shT r s q 64 = true := by
  simp only [shT, Bool.and_eq_true, decide_eq_true_eq]
  refine ⟨by omega, by omega, by omega, by omega, by omega, by omega, ?_⟩
  trivial
set_option maxRecDepth 100000 in
set_option maxHeartbeats 16000000 in
theorem back_small (x0 x1 x2 x3 : Int) (p4 : Option Addr) (n4 c4 : Nat) (y4 : Nat → Int) (p5 : Option Addr) (n5 c5 : Nat) (y5 : Nat → Int) (h4 : n4 ≤ 64) (h5 : n5 ≤ 64) (hy4 : Sc.Byt y4) (hy5 : Sc.Byt y5) (w : World) (hB4 : BAt w p4 n4 y4) (hB5 : BAt w p5 n5 y5) (hS : ShP w) (hCv : CvP w) :
    Calls Tryz.prog 8 #[.int .i64 x0, .int .i64 x1, .int .i64 x2, .int .i64 x3, .slice p4 n4 c4, .slice p5 n5 c5] w (PostV (.bool true) w) := by
  have hB := hS.lt
  have ha := Lib.hid (awake16_c w hS hCv)
  have hPk7 := Lib.hid (fun x w1 => show Calls Tryz.prog 16 #[.int .i64 x, .int .i64 7] w1 (fun e w' => ∃ k : Nat, e = .returned (.int .i64 k) ∧ k < 7 ∧ w' = w1) from (pickx_c x 7 (by decide) (by decide) w1).mono fun e w' ⟨k, h1, h2, _, h3⟩ => ⟨k, h1, h2, h3⟩)
  have hPk4 := Lib.hid (fun x w1 => show Calls Tryz.prog 16 #[.int .i64 x, .int .i64 4] w1 (fun e w' => ∃ k : Nat, e = .returned (.int .i64 k) ∧ k < 4 ∧ (k : Int) = x % 4 ∧ w' = w1) from pickx_c x 4 (by decide) (by decide) w1)
  have hPkq := Lib.hid (fun x w1 => show Calls Tryz.prog 16 #[.int .i64 x, .int .i64 1073741824] w1 (fun e w' => ∃ k : Nat, e = .returned (.int .i64 k) ∧ k < 1073741824 ∧ w' = w1) from (pickx_c x 1073741824 (by decide) (by decide) w1).mono fun e w' ⟨k, h1, h2, _, h3⟩ => ⟨k, h1, h2, h3⟩)
  have hAr := cpI_byt (n := n4) hy4
  have hBr := cpI_byt (n := n5) hy5
  have hsA := fun r s q (h : shT r s q 64 = true) w1 (hb : Below w.heap.size w w1) => show Calls Tryz.prog 15 #[.int .i64 r, .int .i64 s, .int .i64 q, .slice p4 n4 c4] w1 (PostOw r s q (cpI n4 y4) (gI r s q (cpI n4 y4)) w1) from signed_c r s q h p4 n4 c4 y4 h4 hy4 w1 (hB4.below hb) (hS.below hb hB) (hCv.below hb hCv.lt)
  have hsB := fun r s q (h : shT r s q 64 = true) w1 (hb : Below w.heap.size w w1) => show Calls Tryz.prog 15 #[.int .i64 r, .int .i64 s, .int .i64 q, .slice p5 n5 c5] w1 (PostOw r s q (cpI n5 y5) (gI r s q (cpI n5 y5)) w1) from signed_c r s q h p5 n5 c5 y5 h5 hy5 w1 (hB5.below hb) (hS.below hb hB) (hCv.below hb hCv.lt)
  obtain ⟨A, hA⟩ : ∃ A, A = cpI n4 y4 := ⟨_, rfl⟩
  obtain ⟨B, hBB⟩ : ∃ A, A = cpI n5 y5 := ⟨_, rfl⟩
  rw [← hA] at hAr hsA
  rw [← hBB] at hBr hsB
  clear hA hBB
  have hUr := T1_byt hAr hBr
  have hVr := T2_byt hAr hBr
  have hOab := fun r s q (h : shT r s q 64 = true) a1 a2 a3 a4 b1 b2 b3 b4 w1 => Of_ab r s q h A B a1 a2 a3 a4 b1 b2 b3 b4 w1
  have hOba := fun r s q (h : shT r s q 64 = true) a1 a2 a3 a4 b1 b2 b3 b4 w1 => Of_ba r s q h A B a1 a2 a3 a4 b1 b2 b3 b4 w1
  have hSB := fun a1 a2 b1 b2 w1 (k1 : RowB w1 a1 64 a2 A) (k3 : RowB w1 b1 64 b2 B) => sameB_c (some ⟨a1, 0, none⟩) (some ⟨b1, 0, none⟩) 64 a2 64 b2 A B (by decide) (by decide) w1 (k1.bat (Nat.le_refl 64)) (k3.bat (Nat.le_refl 64))
  rw [dfI_eq hAr hBr] at hSB
  have hOrd := fun r s q (h : shT r s q 64 = true) (hE : dfI A B = true) => T_ord h (A := A) (B := B) (of_decide_eq_true hE)
  obtain ⟨E, hE⟩ : ∃ E, E = dfI A B := ⟨_, rfl⟩
  obtain ⟨U, hU⟩ : ∃ E, E = T1 A B := ⟨_, rfl⟩
  obtain ⟨V, hV⟩ : ∃ E, E = T2 A B := ⟨_, rfl⟩
  rw [← hE] at hOab hOba hSB hOrd
  rw [← hU] at hOab hOba hOrd hUr
  rw [← hV] at hOab hOba hOrd hVr
  clear hE hU hV
  have hOany := Lib.hid (fun r s q r' s' q' (h : shT r s q 64 = true) a1 a2 a3 a4 b1 b2 b3 b4 w1 => Of_any r s q r' s' q' h A B a1 a2 a3 a4 b1 b2 b3 b4 w1)
  obtain ⟨F, hF⟩ : ∃ F : Nat → Nat → Int, ∀ i, F i = sdI (i : Int) := ⟨fun i => sdI (i : Int), fun _ => rfl⟩
  obtain ⟨K, hK⟩ : ∃ K : Nat → Nat → Int, ∀ i, K i = Sh.ptI (Sh.keyP (sdI (i : Int))) := ⟨fun i => Sh.ptI (Sh.keyP (sdI (i : Int))), fun _ => rfl⟩
  have hse := Lib.hid (fun (i : Nat) (hi : i ≤ 1000) w1 => show Calls Tryz.prog 19 #[.int .i64 (i : Int)] w1 (PostBs 32 (F i) w1) from by rw [hF]; exact seed16_c (i : Int) (by omega) (by omega) w1)
  have hPub := Lib.hid (fun (i : Nat) g c w1 (k : RowB w1 g 32 c (F i)) (hb : Below w.heap.size w w1) => show Calls Tryz.prog 18 #[.slice (some ⟨g, 0, none⟩) 32 c] w1 (PostBs 32 (K i) w1) from by rw [hF] at k; rw [hK]; exact Public_c (some ⟨g, 0, none⟩) c (sdI (i : Int)) k.cap (fun j _ => sdI_byt _ j) w1 k.bx (hS.below hb hB) (by have := hb.size; omega) (hCv.below hb hCv.lt))
  have hck1 := (fun (i : Nat) s q (X : Nat → Int) (hsh : shT (i : Int) s q 64 = true) (hX : Sc.Byt X) gk ck a1 a2 a3 a4 w1 (hb : Below w.heap.size w w1) (hk : RowB w1 gk 32 ck (K i)) (k1 : RowB w1 a1 64 a2 X) (k2 : RowB w1 a3 64 a4 (gI (i : Int) s q X)) => Check_true gk 0 ck a3 0 a4 (i : Int) s q (some ⟨a1, 0, none⟩) a2 X (K i) (gI (i : Int) s q X) hsh k1.cap hk.cap k2.cap (by rw [hK]; exact key_byt _) (gI_byt _ _ _ _) (fun j _ => hX j) (by rw [hK]; exact Sh.ver_sig (sdI (i : Int)) (fun _ _ => rfl) (fun _ _ => rfl) rfl (fun _ _ => rfl)) w1 hk.lt (fun j hj => by rw [Nat.zero_add]; exact hk.cell j hj) k2.lt (fun j hj => by rw [Nat.zero_add]; exact k2.cell j hj) k1.bx (hS.below hb hB) (hCv.below hb hCv.lt))
  have hck := Lib.hid (fun (i : Nat) (r : Int) (hri : r = (i : Int)) => (by subst hri; exact hck1 i : ∀ (s q : Int) (X : Nat → Int), shT r s q 64 = true → Sc.Byt X → ∀ (gk ck a1 a2 a3 a4 : Nat) (w1 : World), Below w.heap.size w w1 → RowB w1 gk 32 ck (K i) → RowB w1 a1 64 a2 X → RowB w1 a3 64 a4 (gI r s q X) → Calls Tryz.prog 17 #[.slice (some ⟨gk, 0, none⟩) 32 ck, .agg #[.int .i64 r, .int .i64 s, .int .i64 q, .slice (some ⟨a1, 0, none⟩) 64 a2, .slice (some ⟨a3, 0, none⟩) 64 a4]] w1 (PostV (.int .i64 0) w1)))
  clear hck1
  replace hOab := Lib.hid hOab
  replace hOba := Lib.hid hOba
  replace hSB := Lib.hid hSB
  replace hOrd := Lib.hid hOrd
  replace hsA := Lib.hid hsA
  replace hsB := Lib.hid hsB
  replace hUr := Lib.hid hUr
  replace hVr := Lib.hid hVr
  have i4 : ¬ (64 : Int) < (n4 : Int) := by omega
  have i5 : ¬ (64 : Int) < (n5 : Int) := by omega
  clear hS hCv hB4 hB5 hy4 hy5 hAr hBr hF hK h4 h5 hB
  go_enter Tryz.func8, Tryz.ntmps8
  go_wp2_with fail
  refine ha.out.mono ?_
  rintro e w1 ⟨rfl, hb0⟩
  clear ha
  go_wp2_with fail
  clear i4 i5
  refine (hPk7.out x0 w1).mono ?_
  rintro e w2 ⟨k1, rfl, hk1, rfl⟩
  obtain ⟨r, hr⟩ : ∃ r : Int, r = ((k1 + 1 : Nat) : Int) := ⟨_, rfl⟩
  have hwr : IntKind.i64.wrap (1 + (k1 : Int)) = r := by rw [IntKind.wrap_i64]; omega
  have hr7 : r ≤ 7 ∧ 1 ≤ r := by omega
  replace hr := Lib.hid hr
  go_wp2_with fail
  refine (hPk4.out x1 w2).mono ?_
  rintro e w3 ⟨k2, rfl, hk2, hk2e, rfl⟩
  clear hk2e
  obtain ⟨s, hs⟩ : ∃ s : Int, s = (k2 : Int) := ⟨_, rfl⟩
  rw [← hs]
  have hs3 : 0 ≤ s ∧ s ≤ 3 := by omega
  replace hs := Lib.hid hs
  go_wp2_with fail
  refine (hPkq.out x2 w3).mono ?_
  rintro e w4 ⟨k3, rfl, hk3, rfl⟩
  obtain ⟨q, hq⟩ : ∃ q : Int, q = 1 + (k3 : Int) := ⟨_, rfl⟩
  have hwq : IntKind.i64.wrap (1 + (k3 : Int)) = q := by rw [IntKind.wrap_i64]; omega
  have hsh := shk16 (r := r) (s := s) (q := q) (by omega) (by omega) (by omega)
  have hq9 : 1 ≤ q ∧ q ≤ 1073741824 := by omega
  have cA := Lib.hid (hsA.out r s q hsh)
  have cB := Lib.hid (hsB.out r s q hsh)
  have hO1 := hOab.out r s q hsh
  have hO2 := hOba.out r s q hsh
  have hSE := fun p1 c1 p2 c2 p3 c3 p4 c4 p5 c5 p6 c6 p7 c7 p8 c8 w1 (k1 : EvO E r s q U V p1 c1 p2 c2 p3 c3 p4 c4 w1) (k2 : EvO E r s q U V p5 c5 p6 c6 p7 c7 p8 c8 w1) => sameEv_t (fE E r) (fE E s) (fE E q) (nE E) (by cases E <;> decide) U (gI r s q U) V (gI r s q V) p1 p2 p3 p4 p5 p6 p7 p8 c1 c2 c3 c4 c5 c6 c7 c8 w1 k1.bat.1 k1.bat.2.1 k1.bat.2.2.1 k1.bat.2.2.2 k2.bat.1 k2.bat.2.1 k2.bat.2.2.1 k2.bat.2.2.2
  unfold PostEa at hO1 hO2
  obtain ⟨rr, hrr⟩ : ∃ x, x = fE E r := ⟨_, rfl⟩
  obtain ⟨ss, hss⟩ : ∃ x, x = fE E s := ⟨_, rfl⟩
  obtain ⟨qq, hqq⟩ : ∃ x, x = fE E q := ⟨_, rfl⟩
  obtain ⟨nn, hnn⟩ : ∃ x, x = nE E := ⟨_, rfl⟩
  obtain ⟨cc, hcc⟩ : ∃ x, x = cE E := ⟨_, rfl⟩
  rw [← hrr, ← hss, ← hqq, ← hnn, ← hcc] at hO1 hO2
  rw [← hrr, ← hss, ← hqq, ← hnn] at hSE
  replace hrr := Lib.hid hrr
  replace hss := Lib.hid hss
  replace hqq := Lib.hid hqq
  replace hnn := Lib.hid hnn
  replace hcc := Lib.hid hcc
  replace hO1 := Lib.hid hO1
  replace hO2 := Lib.hid hO2
  replace hSE := Lib.hid hSE
  replace hsh := Lib.hid hsh
  replace hr7 := Lib.hid hr7
  replace hs3 := Lib.hid hs3
  replace hq9 := Lib.hid hq9
  clear hs hOab hOba hsA hk2 hk3 hq
  replace hk1 := Lib.hid hk1
  go_wp2_with fail
  refine (cA.out w4 hb0).mono ?_
  rintro e w5 ⟨a1, a2, a3, a4, rfl, _, _, ka, ka2, hb⟩
  replace hb0 := hb0.trans (hb.mono hb0.size)
  clear hb cA hwr hwq
  go_wp2_with fail
  refine (cB.out w5 hb0).mono ?_
  rintro e w6 ⟨b1, b2, b3, b4, rfl, _, _, kb, kb2, hb⟩
  replace hb0 := hb0.trans (hb.mono hb0.size)
  replace ka := ka.below hb
  replace ka2 := ka2.below hb
  clear hb cB
  go_upto_region 7 with fail
  refine at_world (fun W hW => ?_)
  obtain ⟨gA, hgA⟩ : ∃ g, g = w6.heap.size := ⟨_, rfl⟩
  obtain ⟨gB, hgB⟩ : ∃ g, g = w6.heap.size + 1 := ⟨_, rfl⟩
  have hb : Below w6.heap.size w6 W := by rw [hW]; go_grown
  have kA : Blk W gA 28 #[.int .i64 r, .int .i64 s, .int .i64 q, .slice (some ⟨a1, 0, none⟩) 64 a2, .slice (some ⟨a3, 0, none⟩) 64 a4] := by rw [hW, hgA]; exact (Blk.new _ _ _).alloc _
  have kB : Blk W gB 28 #[.int .i64 r, .int .i64 s, .int .i64 q, .slice (some ⟨b1, 0, none⟩) 64 b2, .slice (some ⟨b3, 0, none⟩) 64 b4] := by rw [hW, hgB]; exact blk_at (by simp) (Blk.new _ _ _)
  rw [← hgB, ← hgA]
  clear hW hgA hgB
  replace ka := ka.below hb
  replace ka2 := ka2.below hb
  replace kb := kb.below hb
  replace kb2 := kb2.below hb
  replace hb0 := hb0.trans (hb.mono hb0.size)
  clear hb
  obtain ⟨G, hG⟩ : ∃ G, G = W.heap.size := ⟨_, rfl⟩
  replace hG := Lib.hid hG
  replace ka := Lib.hid ka
  replace ka2 := Lib.hid ka2
  replace kb := Lib.hid kb
  replace kb2 := Lib.hid kb2
  replace kA := Lib.hid kA
  replace kB := Lib.hid kB
  replace hb0 := Lib.hid hb0
  go_wp2_with fail
  go_loopw [18, 19] (fun v i wr => ∃ (k : Nat) (p : Option Addr) (c : Nat) (L : List (Nat × Nat)), k ≤ 7 ∧ i = .int .i64 ((k + 1 : Nat) : Int) ∧ v = .slice p k c ∧ L.length = k ∧ k ≤ c ∧ RowsK G wr (.slice p k c) K L ∧ Below W.heap.size W wr) (fun _ i _ => (8 - intOf i).toNat)
  case atStart => exact ⟨0, none, 0, [], by omega, by rfl, rfl, rfl, Nat.le_refl _, RowsK.nil _ _ _, Below.refl _ _⟩
  case round =>
    obtain ⟨k, p, c, L, hk, rfl, rfl, hLk, hkc, hR, hb⟩ := hrel
    by_cases he : k = 7
    · subst he
      replace hR := Lib.hid hR
      replace hLk := Lib.hid hLk
      replace hkc := Lib.hid hkc
      clear hk hse hPub
      have hs0 := hb0.out.size
      have hbZ := Lib.hid (hb0.out.trans (hb.mono hs0))
      have kA1 := kA.out.below hb
      have kB1 := kB.out.below hb
      have ja := Lib.hid (ka.out.below hb)
      have ja2 := Lib.hid (ka2.out.below hb)
      have jb := Lib.hid (kb.out.below hb)
      have jb2 := Lib.hid (kb2.out.below hb)
      clear ka ka2 kb kb2 kA kB hb hb0 hs0
      obtain ⟨x, hx⟩ : ∃ x, L[k1]? = some x := ⟨_, List.getElem?_eq_getElem (by have := hLk.out; have := hk1.out; omega)⟩
      have kk := (hR.out.ok k1 x hx).1
      obtain ⟨gP, hp, lP, cP⟩ := hR.out.get hLk.out.symm hx
      subst hp
      have kP : CellAt wr gP k1 (.slice (some ⟨x.1, 0, none⟩) 32 x.2) := ⟨lP, cP⟩
      clear hR hx lP cP hLk hG
      obtain ⟨gk, hgk⟩ : ∃ g, g = x.1 := ⟨_, rfl⟩
      obtain ⟨ck, hck0⟩ : ∃ g, g = x.2 := ⟨_, rfl⟩
      rw [← hgk, ← hck0] at kk kP
      clear hgk hck0
      replace ja := ja.out
      replace ja2 := ja2.out
      replace jb := jb.out
      replace jb2 := jb2.out
      have hb0 := hbZ.out
      clear hbZ
      obtain ⟨y0, y1, y2, y3, y4⟩ := blk5v kA1
      obtain ⟨z0, z1, z2, z3, z4⟩ := blk5v kB1
      go_wp2_with fail
      refine (hO1.out a1 a2 a3 a4 b1 b2 b3 b4 wr ja ja2 jb jb2).mono ?_
      rintro e w2 ⟨u1, uc1, u2, uc2, u3, uc3, u4, uc4, rfl, hX, hb⟩
      clear hO1 y0 y1 y2 y3 y4 z0 z1 z2 z3 z4
      replace kA1 := kA1.below hb
      replace kB1 := kB1.below hb
      replace ja := ja.below hb
      replace ja2 := ja2.below hb
      replace jb := jb.below hb
      replace jb2 := jb2.below hb
      replace kk := kk.below hb
      replace kP := kP.below hb
      replace hb0 := hb0.trans (hb.mono hb0.size)
      clear hb
      obtain ⟨y0, y1, y2, y3, y4⟩ := blk5v kA1
      obtain ⟨z0, z1, z2, z3, z4⟩ := blk5v kB1
      have lA := kA1.lt
      have lB := kB1.lt
      go_wp2_with fail
      refine calls_at (fun W2 hW => ?_)
      have hb : Below w2.heap.size w2 W2 := by rw [hW]; go_grown
      obtain ⟨gX, hgX⟩ : ∃ g, g = w2.heap.size := ⟨_, rfl⟩
      have kX : Blk W2 gX 36 #[.int .i64 rr, .int .i64 ss, .int .i64 qq, .slice u1 nn uc1, .slice u2 nn uc2, .int .i64 rr, .int .i64 ss, .int .i64 qq, .slice u3 nn uc3, .slice u4 nn uc4] := by rw [hW, hgX]; exact Blk.new _ _ _
      rw [← hgX]
      replace hX := hX.below hb
      clear hW hgX lA lB y0 y1 y2 y3 y4 z0 z1 z2 z3 z4
      replace kA1 := kA1.below hb
      replace kB1 := kB1.below hb
      replace ja := ja.below hb
      replace ja2 := ja2.below hb
      replace jb := jb.below hb
      replace jb2 := jb2.below hb
      replace kk := kk.below hb
      replace kP := kP.below hb
      replace hb0 := hb0.trans (hb.mono hb0.size)
      clear hb
      refine (hO2.out a1 a2 a3 a4 b1 b2 b3 b4 W2 ja ja2 jb jb2).mono ?_
      rintro e w3 ⟨v1, vc1, v2, vc2, v3, vc3, v4, vc4, rfl, hY, hb⟩
      clear hO2
      replace kA1 := kA1.below hb
      replace kB1 := kB1.below hb
      replace ja := ja.below hb
      replace ja2 := ja2.below hb
      replace jb := jb.below hb
      replace jb2 := jb2.below hb
      replace kk := kk.below hb
      replace kP := kP.below hb
      replace kX := kX.below hb
      replace hX := hX.below hb
      replace hb0 := hb0.trans (hb.mono hb0.size)
      clear hb
      go_upto_region 14 with fail
      refine at_world (fun W3 hW => ?_)
      have hb : Below w3.heap.size w3 W3 := by rw [hW]; go_grown
      obtain ⟨gY, hgY⟩ : ∃ g, g = w3.heap.size := ⟨_, rfl⟩
      have kY : Blk W3 gY 36 #[.int .i64 rr, .int .i64 ss, .int .i64 qq, .slice v1 nn vc1, .slice v2 nn vc2, .int .i64 rr, .int .i64 ss, .int .i64 qq, .slice v3 nn vc3, .slice v4 nn vc4] := by rw [hW, hgY]; exact Blk.new _ _ _
      rw [← hgY]
      replace hY := hY.below hb
      clear hW hgY
      replace kA1 := kA1.below hb
      replace kB1 := kB1.below hb
      replace ja := ja.below hb
      replace ja2 := ja2.below hb
      replace jb := jb.below hb
      replace jb2 := jb2.below hb
      replace kk := kk.below hb
      replace kP := kP.below hb
      replace kX := kX.below hb
      replace hX := hX.below hb
      replace hb0 := hb0.trans (hb.mono hb0.size)
      clear hb
      go_cut [105] from 87 to 208 (fun v wx => v = .bool false ∧ Below W3.heap.size W3 wx)
      case first =>
        obtain ⟨⟨s0, s1, s2, s3, s4⟩, s5, s6, s7, s8, s9⟩ := blk10v kX
        obtain ⟨⟨t0, t1, t2, t3, t4⟩, t5, t6, t7, t8, t9⟩ := blk10v kY
        have cSE := Lib.hid (hSE.out u1 uc1 u2 uc2 u3 uc3 u4 uc4 v1 vc1 v2 vc2 v3 vc3 v4 vc4 W3 hX hY)
        clear hX hY hOany hsB hSE hOrd hPk7 hPk4 hPkq hck hUr hVr
        cases E with
        | true =>
          have e0 : cc = 0 := hcc.out
          subst e0
          clear hcc
          go_wp2_with fail
          refine cSE.out.mono ?_
          rintro e w4 ⟨rfl, hb⟩
          obtain ⟨y0, y1, y2, y3, y4⟩ := blk5v (kA1.below hb)
          obtain ⟨z0, z1, z2, z3, z4⟩ := blk5v (kB1.below hb)
          clear s0 s1 s2 s3 s4 s5 s6 s7 s8 s9 t0 t1 t2 t3 t4 t5 t6 t7 t8 t9
          go_wp2_with fail
          refine (hSB.out a1 a2 b1 b2 w4 (ja.below hb) (jb.below hb)).mono ?_
          rintro e w5 ⟨rfl, hb2⟩
          have hP := Lib.hid (hb.trans (hb2.mono hb.size))
          clear hb hb2 y0 y1 y2 y3 y4 z0 z1 z2 z3 z4 kA1 kB1 kX kY ja ja2 jb jb2 kk kP hSB cSE
          go_wp2_with fail
          go_meet
          case rel => exact ⟨rfl, hP.out⟩
        | false =>
          have e0 : cc = 4 := hcc.out
          subst e0
          clear hcc
          go_wp2_with fail
          refine cSE.out.mono ?_
          rintro e w4 ⟨rfl, hb⟩
          obtain ⟨y0, y1, y2, y3, y4⟩ := blk5v (kA1.below hb)
          obtain ⟨z0, z1, z2, z3, z4⟩ := blk5v (kB1.below hb)
          clear s0 s1 s2 s3 s4 s5 s6 s7 s8 s9 t0 t1 t2 t3 t4 t5 t6 t7 t8 t9
          go_wp2_with fail
          refine (hSB.out a1 a2 b1 b2 w4 (ja.below hb) (jb.below hb)).mono ?_
          rintro e w5 ⟨rfl, hb2⟩
          have hP := Lib.hid (hb.trans (hb2.mono hb.size))
          clear hb hb2 y0 y1 y2 y3 y4 z0 z1 z2 z3 z4 kA1 kB1 kX kY ja ja2 jb jb2 kk kP hSB cSE
          go_wp2_with fail
          go_meet
          case rel => exact ⟨rfl, hP.out⟩
      case rest =>
        obtain ⟨rfl, hb⟩ := hcut
        clear hSB kY hY hSE
        replace kA1 := kA1.below hb
        replace kB1 := kB1.below hb
        replace ja := ja.below hb
        replace ja2 := ja2.below hb
        replace jb := jb.below hb
        replace jb2 := jb2.below hb
        replace kk := kk.below hb
        replace kP := kP.below hb
        replace kX := kX.below hb
        replace hX := hX.below hb
        replace hb0 := hb0.trans (hb.mono hb0.size)
        clear hb
        have r7 := hr7.out
        have s3 := hs3.out
        have q9 := hq9.out
        go_wp2_with fail
        refine (hPk7.out r _).mono ?_
        rintro e w6 ⟨k4, rfl, hk4, rfl⟩
        obtain ⟨r2, hr2⟩ : ∃ z : Int, z = 1 + (k4 : Int) := ⟨_, rfl⟩
        have hwr2 : IntKind.i64.wrap (1 + (k4 : Int)) = r2 := by rw [IntKind.wrap_i64]; omega
        have hsh2 := shk16 (r := r2) (s := s) (q := q) (by omega) s3 q9
        clear hr2 hk4
        go_wp2_with fail
        refine (hsB.out r2 s q hsh2 w6 hb0).mono ?_
        rintro e w7 ⟨l1, l2, l3, l4, rfl, _, _, kl, kl2, hb⟩
        clear hwr2 hsh2
        replace kA1 := kA1.below hb
        replace kB1 := kB1.below hb
        replace ja := ja.below hb
        replace ja2 := ja2.below hb
        replace jb := jb.below hb
        replace jb2 := jb2.below hb
        replace kk := kk.below hb
        replace kP := kP.below hb
        replace kX := kX.below hb
        replace hX := hX.below hb
        replace hb0 := hb0.trans (hb.mono hb0.size)
        clear hb
        have hws : IntKind.i64.wrap (s + 1) = s + 1 := by rw [IntKind.wrap_i64]; omega
        go_wp2_with fail
        refine (hPk4.out (s + 1) _).mono ?_
        rintro e W4 ⟨k5, rfl, hk5, hk5e, hW⟩
        have hb : Below w7.heap.size w7 W4 := by rw [hW]; go_grown
        obtain ⟨gC, hgC⟩ : ∃ g, g = w7.heap.size := ⟨_, rfl⟩
        have kC : Blk W4 gC 28 #[.int .i64 r2, .int .i64 s, .int .i64 q, .slice (some ⟨l1, 0, none⟩) 64 l2, .slice (some ⟨l3, 0, none⟩) 64 l4] := by rw [hW, hgC]; exact Blk.new _ _ _
        rw [← hgC]
        clear hW hgC
        replace kA1 := kA1.below hb
        replace kB1 := kB1.below hb
        replace ja := ja.below hb
        replace ja2 := ja2.below hb
        replace jb := jb.below hb
        replace jb2 := jb2.below hb
        replace kk := kk.below hb
        replace kP := kP.below hb
        replace kX := kX.below hb
        replace hX := hX.below hb
        replace kl := kl.below hb
        replace kl2 := kl2.below hb
        replace hb0 := hb0.trans (hb.mono hb0.size)
        clear hb
        obtain ⟨s2, hs2⟩ : ∃ z : Int, z = (k5 : Int) := ⟨_, rfl⟩
        have hne2 := Lib.hid (show ¬ s2 = s by omega)
        have hsh3 := shk16 (r := r) (s := s2) (q := q) (by omega) (by omega) q9
        rw [← hs2]
        clear hs2 hk5 hk5e hws
        go_wp2_with fail
        refine (hsB.out r s2 q hsh3 W4 hb0).mono ?_
        rintro e w8 ⟨m1, m2, m3, m4, rfl, _, _, km, km2, hb⟩
        clear hsh3
        replace kA1 := kA1.below hb
        replace kB1 := kB1.below hb
        replace ja := ja.below hb
        replace ja2 := ja2.below hb
        replace jb := jb.below hb
        replace jb2 := jb2.below hb
        replace kk := kk.below hb
        replace kP := kP.below hb
        replace kX := kX.below hb
        replace hX := hX.below hb
        replace kl := kl.below hb
        replace kl2 := kl2.below hb
        replace kC := kC.below hb
        replace hb0 := hb0.trans (hb.mono hb0.size)
        clear hb
        go_wp2_with fail
        refine (hPkq.out x3 _).mono ?_
        rintro e W5 ⟨k6, rfl, hk6, hW⟩
        have hb : Below w8.heap.size w8 W5 := by rw [hW]; go_grown
        obtain ⟨gD, hgD⟩ : ∃ g, g = w8.heap.size := ⟨_, rfl⟩
        have kD : Blk W5 gD 28 #[.int .i64 r, .int .i64 s2, .int .i64 q, .slice (some ⟨m1, 0, none⟩) 64 m2, .slice (some ⟨m3, 0, none⟩) 64 m4] := by rw [hW, hgD]; exact Blk.new _ _ _
        rw [← hgD]
        clear hW hgD
        replace kA1 := kA1.below hb
        replace kB1 := kB1.below hb
        replace ja := ja.below hb
        replace ja2 := ja2.below hb
        replace jb := jb.below hb
        replace jb2 := jb2.below hb
        replace kk := kk.below hb
        replace kP := kP.below hb
        replace kX := kX.below hb
        replace hX := hX.below hb
        replace kl := kl.below hb
        replace kl2 := kl2.below hb
        replace kC := kC.below hb
        replace km := km.below hb
        replace km2 := km2.below hb
        replace hb0 := hb0.trans (hb.mono hb0.size)
        clear hb
        obtain ⟨q2, hq2⟩ : ∃ z : Int, z = 1 + (k6 : Int) := ⟨_, rfl⟩
        have hwq2 : IntKind.i64.wrap (1 + (k6 : Int)) = q2 := by rw [IntKind.wrap_i64]; omega
        have hsh4 := shk16 (r := r) (s := s) (q := q2) (by omega) s3 (by omega)
        clear hq2 hk6
        go_wp2_with fail
        refine (hsB.out r s q2 hsh4 W5 hb0).mono ?_
        rintro e w9 ⟨o1, o2, o3, o4, rfl, _, _, ko, ko2, hb⟩
        clear hsh4 hwq2 hsB hPk7 hPk4 hPkq
        replace kA1 := kA1.below hb
        replace kB1 := kB1.below hb
        replace ja := ja.below hb
        replace ja2 := ja2.below hb
        replace jb := jb.below hb
        replace jb2 := jb2.below hb
        replace kk := kk.below hb
        replace kP := kP.below hb
        replace kX := kX.below hb
        replace hX := hX.below hb
        replace kl := kl.below hb
        replace kl2 := kl2.below hb
        replace kC := kC.below hb
        replace km := km.below hb
        replace km2 := km2.below hb
        replace kD := kD.below hb
        replace hb0 := hb0.trans (hb.mono hb0.size)
        clear hb
        obtain ⟨y0, y1, y2, y3, y4⟩ := blk5v kA1
        obtain ⟨z0, z1, z2, z3, z4⟩ := blk5v kC
        have lA := kA1.lt
        have lB := kC.lt
        go_wp2_with fail
        refine calls_at (fun W6 hW => ?_)
        have hb : Below w9.heap.size w9 W6 := by rw [hW]; go_grown
        obtain ⟨gN, hgN⟩ : ∃ g, g = w9.heap.size := ⟨_, rfl⟩
        have kN : Blk W6 gN 28 #[.int .i64 r, .int .i64 s, .int .i64 q2, .slice (some ⟨o1, 0, none⟩) 64 o2, .slice (some ⟨o3, 0, none⟩) 64 o4] := by rw [hW, hgN]; exact Blk.new _ _ _
        rw [← hgN]
        clear hW hgN lA lB y0 y1 y2 y3 y4 z0 z1 z2 z3 z4
        replace kA1 := kA1.below hb
        replace kB1 := kB1.below hb
        replace ja := ja.below hb
        replace ja2 := ja2.below hb
        replace jb := jb.below hb
        replace jb2 := jb2.below hb
        replace kk := kk.below hb
        replace kP := kP.below hb
        replace kX := kX.below hb
        replace hX := hX.below hb
        replace kl := kl.below hb
        replace kl2 := kl2.below hb
        replace kC := kC.below hb
        replace km := km.below hb
        replace km2 := km2.below hb
        replace kD := kD.below hb
        replace ko := ko.below hb
        replace ko2 := ko2.below hb
        replace hb0 := hb0.trans (hb.mono hb0.size)
        clear hb
        refine (hOany.out r s q r2 s q hsh.out a1 a2 a3 a4 l1 l2 l3 l4 W6 ja ja2 kl kl2).mono ?_
        rintro e w10 ⟨va, vb, vc, vd, ve, vf, vg, vh, vi, vj, vk, vl, vm, vn, vo, vp, vq, vr, cd1, rfl, hcd1, hb⟩
        replace kA1 := kA1.below hb
        replace kB1 := kB1.below hb
        replace ja := ja.below hb
        replace ja2 := ja2.below hb
        replace jb := jb.below hb
        replace jb2 := jb2.below hb
        replace kk := kk.below hb
        replace kP := kP.below hb
        replace kX := kX.below hb
        replace hX := hX.below hb
        replace kl := kl.below hb
        replace kl2 := kl2.below hb
        replace kC := kC.below hb
        replace km := km.below hb
        replace km2 := km2.below hb
        replace kD := kD.below hb
        replace ko := ko.below hb
        replace ko2 := ko2.below hb
        replace kN := kN.below hb
        replace hb0 := hb0.trans (hb.mono hb0.size)
        clear hb
        have hcd1' := Lib.hid (fun (h : ¬ r2 = r) => hcd1 (fun k => h k.1))
        clear hcd1
        obtain ⟨y0, y1, y2, y3, y4⟩ := blk5v kA1
        obtain ⟨z0, z1, z2, z3, z4⟩ := blk5v kD
        have lA := kA1.lt
        have lB := kD.lt
        go_wp2_with fail
        refine calls_at (fun W7 hW => ?_)
        have hb : Below w10.heap.size w10 W7 := by rw [hW]; go_grown
        clear hW lA lB y0 y1 y2 y3 y4 z0 z1 z2 z3 z4
        replace kA1 := kA1.below hb
        replace kB1 := kB1.below hb
        replace ja := ja.below hb
        replace ja2 := ja2.below hb
        replace jb := jb.below hb
        replace jb2 := jb2.below hb
        replace kk := kk.below hb
        replace kP := kP.below hb
        replace kX := kX.below hb
        replace hX := hX.below hb
        replace kl := kl.below hb
        replace kl2 := kl2.below hb
        replace kC := kC.below hb
        replace km := km.below hb
        replace km2 := km2.below hb
        replace kD := kD.below hb
        replace ko := ko.below hb
        replace ko2 := ko2.below hb
        replace kN := kN.below hb
        replace hb0 := hb0.trans (hb.mono hb0.size)
        clear hb
        refine (hOany.out r s q r s2 q hsh.out a1 a2 a3 a4 m1 m2 m3 m4 W7 ja ja2 km km2).mono ?_
        rintro e w11 ⟨va, vb, vc, vd, ve, vf, vg, vh, vi, vj, vk, vl, vm, vn, vo, vp, vq, vr, cd2, rfl, hcd2, hb⟩
        replace kA1 := kA1.below hb
        replace kB1 := kB1.below hb
        replace ja := ja.below hb
        replace ja2 := ja2.below hb
        replace jb := jb.below hb
        replace jb2 := jb2.below hb
        replace kk := kk.below hb
        replace kP := kP.below hb
        replace kX := kX.below hb
        replace hX := hX.below hb
        replace kl := kl.below hb
        replace kl2 := kl2.below hb
        replace kC := kC.below hb
        replace km := km.below hb
        replace km2 := km2.below hb
        replace kD := kD.below hb
        replace ko := ko.below hb
        replace ko2 := ko2.below hb
        replace kN := kN.below hb
        replace hb0 := hb0.trans (hb.mono hb0.size)
        clear hb
        have hcd2' : cd2 = 4 := hcd2 (fun k => hne2.out k.2.1)
        subst hcd2'
        clear hcd2
        obtain ⟨y0, y1, y2, y3, y4⟩ := blk5v kA1
        obtain ⟨z0, z1, z2, z3, z4⟩ := blk5v kN
        have lA := kA1.lt
        have lB := kN.lt
        go_wp2_with fail
        refine calls_at (fun W8 hW => ?_)
        have hb : Below w11.heap.size w11 W8 := by rw [hW]; go_grown
        clear hW lA lB y0 y1 y2 y3 y4 z0 z1 z2 z3 z4
        replace kA1 := kA1.below hb
        replace kB1 := kB1.below hb
        replace ja := ja.below hb
        replace ja2 := ja2.below hb
        replace jb := jb.below hb
        replace jb2 := jb2.below hb
        replace kk := kk.below hb
        replace kP := kP.below hb
        replace kX := kX.below hb
        replace hX := hX.below hb
        replace kl := kl.below hb
        replace kl2 := kl2.below hb
        replace kC := kC.below hb
        replace km := km.below hb
        replace km2 := km2.below hb
        replace kD := kD.below hb
        replace ko := ko.below hb
        replace ko2 := ko2.below hb
        replace kN := kN.below hb
        replace hb0 := hb0.trans (hb.mono hb0.size)
        clear hb
        refine (hOany.out r s q r s q2 hsh.out a1 a2 a3 a4 o1 o2 o3 o4 W8 ja ja2 ko ko2).mono ?_
        rintro e w12 ⟨va, vb, vc, vd, ve, vf, vg, vh, vi, vj, vk, vl, vm, vn, vo, vp, vq, vr, cd3, rfl, hcd3, hb⟩
        replace kA1 := kA1.below hb
        replace kB1 := kB1.below hb
        replace ja := ja.below hb
        replace ja2 := ja2.below hb
        replace jb := jb.below hb
        replace jb2 := jb2.below hb
        replace kk := kk.below hb
        replace kP := kP.below hb
        replace kX := kX.below hb
        replace hX := hX.below hb
        replace kl := kl.below hb
        replace kl2 := kl2.below hb
        replace kC := kC.below hb
        replace km := km.below hb
        replace km2 := km2.below hb
        replace kD := kD.below hb
        replace ko := ko.below hb
        replace ko2 := ko2.below hb
        replace kN := kN.below hb
        replace hb0 := hb0.trans (hb.mono hb0.size)
        clear hb
        have hcd3' := Lib.hid (fun (h : ¬ q2 = q) => hcd3 (fun k => h k.2.2))
        clear hcd3 hOany kl kl2 km km2 ko ko2 kD
        go_upto_region 22 with fail
        refine at_world (fun W9 hW => ?_)
        have hb : Below w12.heap.size w12 W9 := by rw [hW]; go_grown
        clear hW
        replace kA1 := kA1.below hb
        replace kB1 := kB1.below hb
        replace ja := ja.below hb
        replace ja2 := ja2.below hb
        replace jb := jb.below hb
        replace jb2 := jb2.below hb
        replace kk := kk.below hb
        replace kP := kP.below hb
        replace kX := kX.below hb
        replace hX := hX.below hb
        replace kC := kC.below hb
        replace kN := kN.below hb
        replace hb0 := hb0.trans (hb.mono hb0.size)
        clear hb
        have y0 := (blk5v kC).1
        have z2 := (blk5v kN).2.2.1
        clear kC kN
        go_cut [166] from 145 to 208 (fun v wx => v = .bool false ∧ wx = W9)
        case first =>
          clear kA1 kB1 ja ja2 jb jb2 kk kP kX hX hOrd hck hUr hVr
          by_cases j1 : r2 = r
          · subst j1
            by_cases j2 : q2 = q
            · subst j2
              clear hcd1' hcd3'
              go_wp2_with fail
              go_meet
              case rel => exact ⟨rfl, rfl⟩
            · have e3 : cd3 = 4 := hcd3'.out j2
              subst e3
              have b2 : (q2 == q) = false := by simp [j2]
              clear hcd1' hcd3'
              go_wp2_with fail
              go_meet
              case rel => exact ⟨rfl, rfl⟩
          · have e1 : cd1 = 4 := hcd1'.out j1
            subst e1
            have b1 : (r2 == r) = false := by simp [j1]
            by_cases j2 : q2 = q
            · subst j2
              clear hcd1' hcd3'
              go_wp2_with fail
              go_meet
              case rel => exact ⟨rfl, rfl⟩
            · have e3 : cd3 = 4 := hcd3'.out j2
              subst e3
              have b2 : (q2 == q) = false := by simp [j2]
              clear hcd1' hcd3'
              go_wp2_with fail
              go_meet
              case rel => exact ⟨rfl, rfl⟩
        case rest =>
          obtain ⟨rfl, rfl⟩ := hcut
          clear hcd1' hcd3' hne2 y0 z2
          cases E with
          | false =>
            have e0 : cc = 4 := hcc.out
            subst e0
            have hP := Lib.hid hb0
            clear kA1 kB1 ja ja2 jb jb2 kk kP kX hX hOrd hck hUr hVr hb0 hcc
            go_wp2_with fail
            go_returns
            exact ⟨rfl, hP.out⟩
          | true =>
            have e0 : cc = 0 := hcc.out
            subst e0
            have e1 : r = rr := hrr.out.symm
            have e2 : s = ss := hss.out.symm
            have e3 : q = qq := hqq.out.symm
            have e4 : nn = 64 := hnn.out
            subst e1 e2 e3 e4
            clear hcc hrr hss hqq hnn kA1 kB1 ja ja2 jb jb2
            obtain ⟨d1, d2, d3, d4, rfl, rfl, rfl, rfl, x1, x2, x3, x4⟩ := hX rfl
            have hO := hOrd.out r s q hsh.out rfl
            clear hX
            have cPut := Lib.hid (ePut_c r s q hsh.out d1 uc1 d2 uc2 d3 uc3 d4 uc4 U (gI r s q U) V (gI r s q V) hO _ x1 x2 x3 x4)
            obtain ⟨⟨s0, s1, s2, s3, s4⟩, s5, s6, s7, s8, s9⟩ := blk10v kX
            have cGet := fun g c w1 (k : RowB w1 g 322 c (evI r s q U (gI r s q U) V (gI r s q V))) => eGet_c g c r s q hsh.out U (gI r s q U) V (gI r s q V) hUr.out (gI_byt _ _ _ _) hVr.out (gI_byt _ _ _ _) hO w1 k
            unfold PostEv at cGet
            have cRt := fun w1 (k1 : RowB w1 d1 64 uc1 U) (k3 : RowB w1 d3 64 uc3 V) => eRight_c r s q (some ⟨d1, 0, none⟩) 64 uc1 (some ⟨d2, 0, none⟩) 64 uc2 r s q (some ⟨d3, 0, none⟩) 64 uc3 (some ⟨d4, 0, none⟩) 64 uc4 U V w1 k1.bx k3.bx
            rw [decide_eq_true hO] at cRt
            have hrk : r = (k1 : Int) + 1 := by have := hr.out; omega
            have cCk := Lib.hid (fun w1 (hb : Below w.heap.size w w1) (kP : CellAt w1 gP k1 (.slice (some ⟨gk, 0, none⟩) 32 ck)) (kk : RowB w1 gk 32 ck (K (k1 + 1))) (k1' : RowB w1 d1 64 uc1 U) (k2' : RowB w1 d2 64 uc2 (gI r s q U)) (k3' : RowB w1 d3 64 uc3 V) (k4' : RowB w1 d4 64 uc4 (gI r s q V)) => eCheck_c gP gk ck 7 c k1 (by decide) hk1.out r s q (some ⟨d1, 0, none⟩) 64 uc1 (some ⟨d2, 0, none⟩) 64 uc2 r s q (some ⟨d3, 0, none⟩) 64 uc3 (some ⟨d4, 0, none⟩) 64 uc4 hrk U V hO w1 k1'.bx k3'.bx kP.2 kP.1 (fun w2 hb2 => hck.out (k1 + 1) r hr.out s q U hsh.out hUr.out gk ck d1 uc1 d2 uc2 w2 (hb.trans (hb2.mono hb.size)) (kk.below hb2) (k1'.below hb2) (k2'.below hb2)) (fun w2 hb2 => hck.out (k1 + 1) r hr.out s q V hsh.out hVr.out gk ck d3 uc3 d4 uc4 w2 (hb.trans (hb2.mono hb.size)) (kk.below hb2) (k3'.below hb2) (k4'.below hb2)))
            have cCn := Lib.hid (fun w1 (k1' : RowB w1 d1 64 uc1 U) (k3' : RowB w1 d3 64 uc3 V) => eCheck_none (some ⟨gP, 0, none⟩) k1 c r s q (some ⟨d1, 0, none⟩) 64 uc1 (some ⟨d2, 0, none⟩) 64 uc2 r s q (some ⟨d3, 0, none⟩) 64 uc3 (some ⟨d4, 0, none⟩) 64 uc4 (by omega) U V hO w1 k1'.bx k3'.bx)
            have cSE := Lib.hid (fun f1 g1 f2 g2 f3 g3 f4 g4 w1 (m1 : RowB w1 f1 64 g1 U) (m2 : RowB w1 f2 64 g2 (gI r s q U)) (m3 : RowB w1 f3 64 g3 V) (m4 : RowB w1 f4 64 g4 (gI r s q V)) (k1' : RowB w1 d1 64 uc1 U) (k2' : RowB w1 d2 64 uc2 (gI r s q U)) (k3' : RowB w1 d3 64 uc3 V) (k4' : RowB w1 d4 64 uc4 (gI r s q V)) => sameEv_t r s q 64 (by decide) U (gI r s q U) V (gI r s q V) (some ⟨f1, 0, none⟩) (some ⟨f2, 0, none⟩) (some ⟨f3, 0, none⟩) (some ⟨f4, 0, none⟩) (some ⟨d1, 0, none⟩) (some ⟨d2, 0, none⟩) (some ⟨d3, 0, none⟩) (some ⟨d4, 0, none⟩) g1 g2 g3 g4 uc1 uc2 uc3 uc4 w1 (m1.bat (Nat.le_refl 64)) (m2.bat (Nat.le_refl 64)) (m3.bat (Nat.le_refl 64)) (m4.bat (Nat.le_refl 64)) (k1'.bat (Nat.le_refl 64)) (k2'.bat (Nat.le_refl 64)) (k3'.bat (Nat.le_refl 64)) (k4'.bat (Nat.le_refl 64)))
            obtain ⟨EVI, hEVI⟩ : ∃ x, x = evI r s q U (gI r s q U) V (gI r s q V) := ⟨_, rfl⟩
            rw [← hEVI] at cPut cGet
            replace cGet := Lib.hid cGet
            replace cRt := Lib.hid cRt
            have hwk : IntKind.i64.wrap (r - 1) = (k1 : Int) := by rw [IntKind.wrap_i64]; omega
            have hk1c : (k1 : Int) ≤ (c : Int) := by have := hkc.out; have := hk1.out; omega
            have hk10 : (0 : Int) ≤ (k1 : Int) := by omega
            have hk1n : k1 ≤ c := by omega
            clear hEVI hO hck hOrd hUr hVr hrk
            go_wp2_with fail
            refine cPut.out.mono ?_
            rintro e w13 ⟨g5, c6, rfl, _, k5, hb⟩
            clear cPut s0 s1 s2 s3 s4 s5 s6 s7 s8 s9
            replace kk := kk.below hb
            replace kP := kP.below hb
            replace kX := kX.below hb
            replace x1 := x1.below hb
            replace x2 := x2.below hb
            replace x3 := x3.below hb
            replace x4 := x4.below hb
            replace hb0 := hb0.trans (hb.mono hb0.size)
            clear hb
            go_wp2_with fail
            refine (cGet.out g5 c6 w13 k5).mono ?_
            rintro e w14 ⟨f1, g1, f2, g2, f3, g3, f4, g4, rfl, m1, m2, m3, m4, hb⟩
            clear cGet k5
            replace kk := kk.below hb
            replace kP := kP.below hb
            replace kX := kX.below hb
            replace x1 := x1.below hb
            replace x2 := x2.below hb
            replace x3 := x3.below hb
            replace x4 := x4.below hb
            replace hb0 := hb0.trans (hb.mono hb0.size)
            clear hb
            go_upto_region 28 with fail
            refine at_world (fun W9 hW => ?_)
            have hb : Below w14.heap.size w14 W9 := by rw [hW]; go_grown
            obtain ⟨gK, hgK⟩ : ∃ g, g = w14.heap.size := ⟨_, rfl⟩
            have kK : Blk W9 gK 36 #[.int .i64 r, .int .i64 s, .int .i64 q, .slice (some ⟨f1, 0, none⟩) 64 g1, .slice (some ⟨f2, 0, none⟩) 64 g2, .int .i64 r, .int .i64 s, .int .i64 q, .slice (some ⟨f3, 0, none⟩) 64 g3, .slice (some ⟨f4, 0, none⟩) 64 g4] := by rw [hW, hgK]; exact Blk.new _ _ _
            rw [← hgK]
            replace m1 := m1.below hb
            replace m2 := m2.below hb
            replace m3 := m3.below hb
            replace m4 := m4.below hb
            clear hW hgK
            replace kk := kk.below hb
            replace kP := kP.below hb
            replace kX := kX.below hb
            replace x1 := x1.below hb
            replace x2 := x2.below hb
            replace x3 := x3.below hb
            replace x4 := x4.below hb
            replace hb0 := hb0.trans (hb.mono hb0.size)
            clear hb
            have hSS := Lib.hid (fun w' (hb : Below W9.heap.size W9 w') => (⟨blk10v (kX.below hb), blk10v (kK.below hb)⟩ : ((w'.cell? ⟨gX, 0, none⟩ = some (.int .i64 r) ∧ w'.cell? ⟨gX, 1, none⟩ = some (.int .i64 s) ∧ w'.cell? ⟨gX, 2, none⟩ = some (.int .i64 q) ∧ w'.cell? ⟨gX, 3, none⟩ = some (.slice (some ⟨d1, 0, none⟩) 64 uc1) ∧ w'.cell? ⟨gX, 4, none⟩ = some (.slice (some ⟨d2, 0, none⟩) 64 uc2)) ∧ w'.cell? ⟨gX, 5, none⟩ = some (.int .i64 r) ∧ w'.cell? ⟨gX, 6, none⟩ = some (.int .i64 s) ∧ w'.cell? ⟨gX, 7, none⟩ = some (.int .i64 q) ∧ w'.cell? ⟨gX, 8, none⟩ = some (.slice (some ⟨d3, 0, none⟩) 64 uc3) ∧ w'.cell? ⟨gX, 9, none⟩ = some (.slice (some ⟨d4, 0, none⟩) 64 uc4)) ∧ ((w'.cell? ⟨gK, 0, none⟩ = some (.int .i64 r) ∧ w'.cell? ⟨gK, 1, none⟩ = some (.int .i64 s) ∧ w'.cell? ⟨gK, 2, none⟩ = some (.int .i64 q) ∧ w'.cell? ⟨gK, 3, none⟩ = some (.slice (some ⟨f1, 0, none⟩) 64 g1) ∧ w'.cell? ⟨gK, 4, none⟩ = some (.slice (some ⟨f2, 0, none⟩) 64 g2)) ∧ w'.cell? ⟨gK, 5, none⟩ = some (.int .i64 r) ∧ w'.cell? ⟨gK, 6, none⟩ = some (.int .i64 s) ∧ w'.cell? ⟨gK, 7, none⟩ = some (.int .i64 q) ∧ w'.cell? ⟨gK, 8, none⟩ = some (.slice (some ⟨f3, 0, none⟩) 64 g3) ∧ w'.cell? ⟨gK, 9, none⟩ = some (.slice (some ⟨f4, 0, none⟩) 64 g4))))
            have z0 := Below.refl W9.heap.size W9
            have hs := Lib.hid hb0.size
            replace hb0 := Lib.hid hb0
            replace kk := Lib.hid kk
            replace kP := Lib.hid kP
            replace x1 := Lib.hid x1
            replace x2 := Lib.hid x2
            replace x3 := Lib.hid x3
            replace x4 := Lib.hid x4
            replace m1 := Lib.hid m1
            replace m2 := Lib.hid m2
            replace m3 := Lib.hid m3
            replace m4 := Lib.hid m4
            clear kX kK
            go_region_held3 (fun w' => ((w'.cell? ⟨gX, 0, none⟩ = some (.int .i64 r) ∧ w'.cell? ⟨gX, 1, none⟩ = some (.int .i64 s) ∧ w'.cell? ⟨gX, 2, none⟩ = some (.int .i64 q) ∧ w'.cell? ⟨gX, 3, none⟩ = some (.slice (some ⟨d1, 0, none⟩) 64 uc1) ∧ w'.cell? ⟨gX, 4, none⟩ = some (.slice (some ⟨d2, 0, none⟩) 64 uc2)) ∧ w'.cell? ⟨gX, 5, none⟩ = some (.int .i64 r) ∧ w'.cell? ⟨gX, 6, none⟩ = some (.int .i64 s) ∧ w'.cell? ⟨gX, 7, none⟩ = some (.int .i64 q) ∧ w'.cell? ⟨gX, 8, none⟩ = some (.slice (some ⟨d3, 0, none⟩) 64 uc3) ∧ w'.cell? ⟨gX, 9, none⟩ = some (.slice (some ⟨d4, 0, none⟩) 64 uc4)) ∧ ((w'.cell? ⟨gK, 0, none⟩ = some (.int .i64 r) ∧ w'.cell? ⟨gK, 1, none⟩ = some (.int .i64 s) ∧ w'.cell? ⟨gK, 2, none⟩ = some (.int .i64 q) ∧ w'.cell? ⟨gK, 3, none⟩ = some (.slice (some ⟨f1, 0, none⟩) 64 g1) ∧ w'.cell? ⟨gK, 4, none⟩ = some (.slice (some ⟨f2, 0, none⟩) 64 g2)) ∧ w'.cell? ⟨gK, 5, none⟩ = some (.int .i64 r) ∧ w'.cell? ⟨gK, 6, none⟩ = some (.int .i64 s) ∧ w'.cell? ⟨gK, 7, none⟩ = some (.int .i64 q) ∧ w'.cell? ⟨gK, 8, none⟩ = some (.slice (some ⟨f3, 0, none⟩) 64 g3) ∧ w'.cell? ⟨gK, 9, none⟩ = some (.slice (some ⟨f4, 0, none⟩) 64 g4))) (first | exact hSS.out _ n4 | exact hSS.out _ n3 | exact hSS.out _ n2 | exact hSS.out _ n1 | exact hSS.out _ z0 | exact hSS.out _ z0.drew | exact hSS.out _ (by go_grown)) (first | (go_at_call 21; refine calls_at (fun V1 h1 => ?_); have m1' : Below W9.heap.size W9 V1 := (by rw [h1]; go_grown); clear h1; (with_reducible refine (cRt.out V1 (x1.out.below m1') (x3.out.below m1')).mono ?_); rintro e w21 ⟨rfl, hbb⟩; have n1 := m1'.trans (hbb.mono m1'.size); clear hbb m1' cRt) | (go_at_call 42; refine calls_at (fun V1 h1 => ?_); have m1' : Below w21.heap.size w21 V1 := (by rw [h1]; go_grown); clear h1; have m2' := n1.trans (m1'.mono n1.size); (with_reducible refine (cCk.out V1 (hb0.out.trans (m2'.mono hs.out)) (kP.out.below m2') (kk.out.below m2') (x1.out.below m2') (x2.out.below m2') (x3.out.below m2') (x4.out.below m2')).mono ?_); rintro e w22 ⟨rfl, hbb⟩; have n2 := m2'.trans (hbb.mono m2'.size); clear hbb m1' m2' cCk) | (go_at_call 42; refine calls_at (fun V1 h1 => ?_); have m1' : Below w22.heap.size w22 V1 := (by rw [h1]; go_grown); clear h1; have m2' := n2.trans (m1'.mono n2.size); (with_reducible refine (cCn.out V1 (x1.out.below m2') (x3.out.below m2')).mono ?_); rintro e w23 ⟨rfl, hbb⟩; have n3 := m2'.trans (hbb.mono m2'.size); clear hbb m1' m2' cCn) | (go_at_call 22; refine calls_at (fun V1 h1 => ?_); have m1' : Below w23.heap.size w23 V1 := (by rw [h1]; go_grown); clear h1; have m2' := n3.trans (m1'.mono n3.size); (with_reducible refine (cSE.out f1 g1 f2 g2 f3 g3 f4 g4 V1 (m1.out.below m2') (m2.out.below m2') (m3.out.below m2') (m4.out.below m2') (x1.out.below m2') (x2.out.below m2') (x3.out.below m2') (x4.out.below m2')).mono ?_); rintro e w24 ⟨rfl, hbb⟩; have n4 := m2'.trans (hbb.mono m2'.size); clear hbb m1' m2' cSE))
            all_goals
              have hP := Lib.hid (hb0.out.trans (n4.mono hs.out))
              clear hSS n4 n3 n2 n1 z0 hb0 hs kk kP x1 x2 x3 x4 m1 m2 m3 m4
              go_wp2_with fail
              go_returns
              exact ⟨rfl, hP.out⟩
    · have hi : ((k + 1 : Nat) : Int) ≤ 7 := by omega
      have hi0 : (0 : Int) ≤ ((k + 1 : Nat) : Int) := by omega
      have hwk : IntKind.i64.wrap (((k + 1 : Nat) : Int) + 1) = ((k + 1 + 1 : Nat) : Int) := by rw [IntKind.wrap_i64]; omega
      have hs0 := hb0.out.size
      have hbW := Lib.hid hb
      have cS := Lib.hid (hse.out (k + 1) (by omega))
      have cP := Lib.hid (hPub.out (k + 1))
      have hk7 := Lib.hid (show k + 1 ≤ 7 by omega)
      replace hLk := Lib.hid hLk
      replace hkc := Lib.hid hkc
      replace hR := Lib.hid hR
      obtain ⟨m, hm⟩ : ∃ m, m = k + 1 := ⟨_, rfl⟩
      rw [← hm] at cS cP hi hi0 hwk ⊢
      replace hm := Lib.hid hm
      clear he hk hb
      go_wp2_with fail
      refine (cS.out wr).mono ?_
      rintro e w2 ⟨g2, c2, rfl, lg2, kq, hb⟩
      replace hR := Lib.hid (hR.out.below hb)
      replace hbW := Lib.hid (hbW.out.trans (hb.mono hbW.out.size))
      clear hb
      go_wp2_with fail
      refine (cP.out g2 c2 w2 kq (hb0.out.trans (hbW.out.mono hs0))).mono ?_
      rintro e w3 ⟨g3, c3, rfl, lg3, kp, hb⟩
      have hGs : G ≤ w2.heap.size := by have := hG.out; have := hbW.out.size; omega
      have hne : (Value.slice p k c).ownBlock ≠ some g3 := fun e => by
        have := (hR.out.own.lt _ e).2
        omega
      replace hR := Lib.hid (hR.out.below hb)
      replace hbW := Lib.hid (hbW.out.trans (hb.mono hbW.out.size))
      replace hGs := Nat.le_trans hGs hb.size
      replace kp := Lib.hid kp
      replace hne := Lib.hid hne
      clear hb cS cP kq
      go_wp2_with (at_builtin; refine wpList_appK rfl rfl rfl (g3, c3) (hR.out.below ((Below.refl _ _).alloc (Nat.le_refl _) _)) rfl (Blk.new _ _ _) (by rw [hLk.out, ← hm.out]; exact kp.out.below ((Below.refl _ _).alloc (Nat.le_refl _) _)) hne.out (by have := hLk.out; have := hk7.out; omega) (by simp; omega) ?_; intro v' w' hRn hgr)
      obtain ⟨p', c', rfl, hlc⟩ := hRn.sl
      have hbA : Below W.heap.size W w' := (hbW.out.alloc hbW.out.size _).grown hgr (by have := hbW.out.size; simp; omega) (fun kk hk => by have := (hR.out.own.lt kk hk).1; have := hG.out; omega)
      clear hgr
      have hll : (L ++ [(g3, c3)]).length = k + 1 := by rw [List.length_append, hLk.out]; rfl
      rw [hll] at hlc hRn ⊢
      exact ⟨⟨k + 1, p', c', L ++ [(g3, c3)], hk7.out, congrArg (fun z => Value.int .i64 z) (by have := hm.out; omega), rfl, hll, hlc, hRn, hbA⟩, by have := hk7.out; have := hm.out; simp [intOf]; omega⟩
end Go.Proofs.YtgjffaoggjlamaaGreatDoor
