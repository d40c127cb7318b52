/- SignBack answers true at every input, and its arguments read as they did; its four package variables are tied to the program's text. -/
import Derived.Test.YtigcobcpfmnhoaaDoorCu
import Derived.Test.YtigcobcpfmnhoaaDoorCv
namespace Sh
open Go Go.Proofs.YtigcobcpfmnhoaaDoor Go.Proofs
/-- the carry of a sum of bytes, and the sum's bytes -/
def cI (A O : Nat → Int) : Nat → Int
  | 0 => 0
  | k + 1 => (cI A O k + A k + O k) / 256
def dI (A O : Nat → Int) (j : Nat) : Int := (cI A O j + A j + O j) % 256
theorem cI_r {A O : Nat → Int} (hA : Sc.Byt A) (hO : Sc.Byt O) : ∀ k, 0 ≤ cI A O k ∧ cI A O k ≤ 1
  | 0 => ⟨Int.le_refl _, by show (0 : Int) ≤ 1; decide⟩
  | k + 1 => by
    have ih := cI_r hA hO k
    have h1 := hA k
    have h2 := hO k
    show 0 ≤ (cI A O k + A k + O k) / 256 ∧ (cI A O k + A k + O k) / 256 ≤ 1
    omega
theorem dI_sum (A O : Nat → Int) : ∀ k, Sc.leV (dI A O) k + 256 ^ k * cI A O k = Sc.leV A k + Sc.leV O k
  | 0 => rfl
  | k + 1 => by
    have ih := dI_sum A O k
    rw [Sc.leV_succ, Sc.leV_succ, Sc.leV_succ, Int.pow_succ]
    have h : 256 * cI A O (k + 1) + dI A O k = cI A O k + A k + O k := by
      show 256 * ((cI A O k + A k + O k) / 256) + (cI A O k + A k + O k) % 256 = _
      omega
    generalize cI A O (k + 1) = C at *
    generalize cI A O k = c at *
    generalize dI A O k = d at *
    generalize (256 : Int) ^ k = X at *
    generalize Sc.leV (dI A O) k = D at *
    have h2 : X * 256 * C + X * d = X * (c + A k + O k) := by rw [← h, Int.mul_add, Int.mul_assoc]
    rw [Int.mul_add, Int.mul_add] at h2
    omega
/-- S with a number added, k bytes done -/
def mI (G O : Nat → Int) (k j : Nat) : Int := if 32 ≤ j ∧ j < 32 + k then dI (fun j => G (32 + j)) O (j - 32) else G j
theorem mI_step (G O : Nat → Int) (k : Nat) : mI G O (k + 1) = fun j => if j = 32 + k then dI (fun j => G (32 + j)) O k else mI G O k j := funext fun j => by
  unfold mI
  by_cases h : j = 32 + k
  · subst h
    rw [if_pos (by omega), if_pos rfl, show 32 + k - 32 = k by omega]
  · rw [if_neg h]
    by_cases h2 : 32 ≤ j ∧ j < 32 + k
    · rw [if_pos (by omega), if_pos h2]
    · rw [if_neg (by omega), if_neg h2]
def ordL : List Int := [0xed, 0xd3, 0xf5, 0x5c, 0x1a, 0x63, 0x12, 0x58, 0xd6, 0x9c, 0xf7, 0xa2, 0xde, 0xf9, 0xde, 0x14, 0, 0, 0, 0, 0, 0, 0, 0, 0, 0, 0, 0, 0, 0, 0, 16]
def ordF (j : Nat) : Int := ordL.getD j 0
theorem ordF_r : Sc.Byt ordF := fun j => by
  unfold ordF
  by_cases hj : j < 32
  · exact (show ∀ j : Fin 32, 0 ≤ ordL.getD j.val 0 ∧ ordL.getD j.val 0 < 256 by decide +kernel) ⟨j, hj⟩
  · rw [List.getD_eq_getElem?_getD, List.getElem?_eq_none (by show 32 ≤ j; omega)]
    exact (show (0 : Int) ≤ 0 ∧ (0 : Int) < 256 by decide)
theorem ordF_val : Sc.leV ordF 32 = LI := by unfold LI; decide +kernel
/-- S and L added is no number below L -/
theorem mI_big {G : Nat → Int} (hG : Sc.Byt G) (h : Sc.leV (fun j => G (32 + j)) 32 < LI) : ¬ Sc.leV (fun j => mI G ordF 32 (32 + j)) 32 < LI := by
  have hA : Sc.Byt (fun j => G (32 + j)) := fun j => hG _
  have h1 := dI_sum (fun j => G (32 + j)) ordF 32
  have h2 := cI_r hA ordF_r 32
  have h3 := (Sc.leV_bd hA 32).1
  have h4 := (Sc.leV_bd (b := dI (fun j => G (32 + j)) ordF) (fun j => ⟨Int.emod_nonneg _ (by decide), Int.emod_lt_of_pos _ (by decide)⟩) 32).1
  rw [ordF_val] at h1
  rw [Sc.leV_congr 32 (f := fun j => mI G ordF 32 (32 + j)) (g := dI (fun j => G (32 + j)) ordF) (fun j hj => by unfold mI; rw [if_pos (by omega), show 32 + j - 32 = j by omega])]
  have h5 : cI (fun j => G (32 + j)) ordF 32 = 0 := by
    rcases (show cI (fun j => G (32 + j)) ordF 32 = 0 ∨ cI (fun j => G (32 + j)) ordF 32 = 1 by omega) with e | e
    · exact e
    · rw [e, Int.mul_one] at h1
      have : LI * 2 < 256 ^ 32 := by unfold LI; decide
      omega
  rw [h5, Int.mul_zero] at h1
  omega
theorem mI_r {G : Nat → Int} (hG : Sc.Byt G) (k : Nat) : Sc.Byt (mI G ordF k) := fun j => by
  unfold mI
  split
  · exact ⟨Int.emod_nonneg _ (by decide), Int.emod_lt_of_pos _ (by decide)⟩
  · exact hG j
end Sh
namespace Go.Proofs.YtigcobcpfmnhoaaDoor
open Go Go.RowKit
theorem RowB.own {w : World} {B g n c : Nat} {f : Nat → Int} (h : RowB w g n c f) (hB : B ≤ g) : w.ownsRow B 5 1 (.slice (some ⟨g, 0, none⟩) n c) n (cB n f) := by
  obtain ⟨cur, h1, h2, h3, h4, h5⟩ := h
  exact ⟨by rw [cB_len, Nat.mul_one], .inr ⟨g, c, cur, rfl, hB, h1, h2, h3, by omega, by rw [Nat.mul_one]; exact h5⟩⟩
set_option maxRecDepth 20000 in
set_option maxHeartbeats 4000000 in
theorem back_short (p1 : Option Addr) (n1 c1 : Nat) (b1 : Nat → Int) (p2 : Option Addr) (n2 c2 : Nat) (b2 : Nat → Int) (p3 : Option Addr) (n3 c3 : Nat) (b3 : Nat → Int) (h1 : n1 ≤ 100) (h2 : n2 ≤ 1000) (h3 : n3 ≤ 64) (hr1 : Sc.Byt b1) (hr2 : Sc.Byt b2) (hr3 : Sc.Byt b3) (hc2 : n2 ≤ c2) (w : World) (hB1 : BAt w p1 n1 b1) (hB2 : BAt w p2 n2 b2) (hB3 : BAt w p3 n3 b3) (hS : ShP w) (hCv : CvP w) : Calls Tryd.prog 4 #[.slice p1 n1 c1, .slice p2 n2 c2, .slice p3 n3 c3] w (PostV (.bool true) w) := by
  have hB := hS.lt
  have ha := Lib.hid (awake5_c w hS hCv)
  have i1 : (n1 : Int) ≤ 100 := by omega
  have i2 : (n2 : Int) ≤ 1000 := by omega
  have i3 : (n3 : Int) ≤ 64 := by omega
  have hse := Lib.hid (fun w1 (hb : Below w.heap.size w w1) => seed_c p1 n1 c1 b1 h1 w1 (hB1.below hb))
  obtain ⟨F, hF⟩ : ∃ F, F = foldB b1 n1 := ⟨_, rfl⟩
  have hFr : Sc.Byt F := by rw [hF]; exact fun j => foldB_r hr1 n1 j
  rw [← hF] at hse
  have hX2 : ∀ w1, Below w.heap.size w w1 → PVs w1 [.slice p2 n2 c2] [(n2, b2)] := fun w1 hb => ⟨⟨p2, c2, rfl, hc2, fun h0 => by
    obtain ⟨g, o, e, hg, hc⟩ := hB2.below hb h0
    exact ⟨g, o, e, hg, by simp, hc⟩⟩, trivial⟩
  have hby : Sh.BytI [(n2, b2)] := ⟨fun j _ => hr2 j, trivial⟩
  have hln : Sh.lenI [(n2, b2)] ≤ 1000000 := by show n2 + 0 ≤ 1000000; omega
  have hPub := Lib.hid (fun g c w1 (h : RowB w1 g 32 c F) (hb : Below w.heap.size w w1) => Public_c (some ⟨g, 0, none⟩) c F h.cap (fun j _ => hFr j) w1 h.bx (hS.below hb hB) (by have := hb.size; omega) (hCv.below hb hCv.lt))
  have hSig := fun g c w1 (h : RowB w1 g 32 c F) (hb : Below w.heap.size w w1) => show Calls Tryd.prog 21 #[.slice (some ⟨g, 0, none⟩) 32 c, .slice (some ⟨w1.heap.size, 0, none⟩) 1 1] (w1.alloc (.cells #[.slice p2 n2 c2] 22)) (PostBs 64 (Sh.sigI F [(n2, b2)]) w1) from signL F hFr [.slice p2 n2 c2] [(n2, b2)] (by show 0 < 1; decide) (by show 1 ≤ 10000; decide) hln hby g c w1 (hS.below hb hB) (hCv.below hb hCv.lt) h (hX2 w1 hb)
  have hVer := fun (G : Nat → Int) (hG : Sc.Byt G) (V : Bool) (hv : Sh.verI (Sh.ptI (Sh.keyP F)) G [(n2, b2)] = V) g c g2 d w1 (h : RowB w1 g 32 c (Sh.ptI (Sh.keyP F))) (h2 : RowB w1 g2 64 d G) (hb : Below w.heap.size w w1) => show Calls Tryd.prog 22 #[.slice (some ⟨g, 0, none⟩) 32 c, .slice (some ⟨g2, 0, none⟩) 64 d, .slice (some ⟨w1.heap.size, 0, none⟩) 1 1] (w1.alloc (.cells #[.slice p2 n2 c2] 22)) (PostV (.bool V) w1) from verifyL (Sh.ptI (Sh.keyP F)) G (key_byt F) hG V hv [.slice p2 n2 c2] (by show 0 < 1; decide) (by show 1 ≤ 10000; decide) hln hby g c g2 d w1 (hS.below hb hB) (hCv.below hb hCv.lt) h h2 (hX2 w1 hb)
  obtain ⟨G, hG⟩ : ∃ G, G = Sh.sigI F [(n2, b2)] := ⟨_, rfl⟩
  have hGr : Sc.Byt G := by rw [hG]; exact sig_byt _ _
  have hA : Sc.Byt (fun j => G (32 + j)) := fun j => hGr _
  have hlt : Sc.leV (fun j => G (32 + j)) 32 < LI := by rw [hG, Sh.sig_leV]; exact (Sh.sI_bd _ _).2
  have hV1 := hVer G hGr true (by rw [hG]; exact Sh.ver_sig F (fun _ _ => rfl) (fun _ _ => rfl) rfl (fun _ _ => rfl))
  have hV2 := hVer (Sh.mI G Sh.ordF 32) (Sh.mI_r hGr 32) false (by unfold Sh.verI; rw [decide_eq_false (Sh.mI_big hGr hlt)]; rfl)
  have hRd := reduce_c p3 n3 c3 h3 (toF b3)
  have e3 : (fun j => ((toF b3 j).val : Int)) = b3 := funext fun j => toF_val (hr3 j)
  rw [e3] at hRd
  have hyb : 0 ≤ Sc.leV b3 n3 % LI ∧ Sc.leV b3 n3 % LI < LI := ⟨Int.emod_nonneg _ (by unfold LI; decide), Int.emod_lt_of_pos _ (by unfold LI; decide)⟩
  obtain ⟨N, hN⟩ : ∃ N, N = Sc.leV b3 n3 % LI := ⟨_, rfl⟩
  rw [← hN] at hRd hyb
  obtain ⟨Z, hZ⟩ : ∃ Z : Nat → Int, Z = fun j => if j < 32 then G j else Sc.byt N (j - 32) := ⟨_, rfl⟩
  have hZr : Sc.Byt Z := fun j => by
    rw [hZ]
    dsimp only
    split
    · exact hGr j
    · exact Sc.byt_r N _
  have hZhi : (fun j => Z (32 + j)) = Sc.byt N := funext fun j => by rw [hZ]; dsimp only; rw [if_neg (by omega), show 32 + j - 32 = j by omega]
  have hZlo : ∀ j, j < 32 → Z j = G j := fun j hj => by rw [hZ]; dsimp only; rw [if_pos hj]
  obtain ⟨E, hE⟩ : ∃ E, E = eqB 32 (Sc.byt N) 32 (fun j => G (32 + j)) := ⟨_, rfl⟩
  have hZv : Sh.verI (Sh.ptI (Sh.keyP F)) Z [(n2, b2)] = E := by
    have hv := Sh.ver_own F (b := Sh.ptI (Sh.keyP F)) (s := Z) (l := [(n2, b2)]) (l' := [(n2, b2)]) (fun _ _ => rfl) (fun j hj => by rw [hZlo j hj, hG, Sh.sig_lo F _ j hj]) rfl (fun _ _ => rfl)
    rw [hZhi, Sh.leV_bytL hyb.1 hyb.2] at hv
    rw [hv hyb.1 hyb.2, hE]
    unfold eqB
    refine decide_eq_decide.2 ⟨fun h => ⟨rfl, fun j hj => ?_⟩, fun h => ?_⟩
    · rw [h, hG]; exact (Sh.sig_hi F _ j hj).symm
    · have h5 := Sc.leV_congr 32 h.2
      rw [Sh.leV_bytL hyb.1 hyb.2, hG, Sh.sig_leV] at h5
      exact h5
  have hV3 := hVer Z hZr E hZv
  obtain ⟨K, hK⟩ : ∃ K, K = Sh.ptI (Sh.keyP F) := ⟨_, rfl⟩
  rw [← hG] at hSig
  rw [← hK] at hPub hV1 hV2 hV3
  have e4 : (fun j => ((toF (fun j => G (32 + j)) j).val : Int)) = fun j => G (32 + j) := funext fun j => toF_val (hA j)
  have hRt := fun g d w1 (h : RowB w1 g 64 d G) => right_c (some ⟨g, 32, none⟩) (d - 32) (toF (fun j => G (32 + j))) w1 (by rw [e4]; exact fun _ => ⟨g, 32, rfl, h.lt, fun j hj => h.cell _ (by omega)⟩)
  rw [e4, decide_eq_true hlt] at hRt
  have hSm := fun g c g' d w1 (h : RowB w1 g 32 c (Sc.byt N)) (h' : RowB w1 g' 64 d G) => sameB_c (some ⟨g, 0, none⟩) (some ⟨g', 32, none⟩) 32 c 32 (d - 32) (Sc.byt N) (fun j => G (32 + j)) (by decide) (by decide) w1 (h.bat (Nat.le_refl _)) (fun _ => ⟨g', 32, rfl, h'.lt, fun j hj => h'.cell _ (by omega)⟩)
  rw [← hE] at hSm
  have hRd2 := fun w1 (hb : Below w.heap.size w w1) => hRd w1 (hB3.below hb)
  have hT : ∀ k, k < 32 → ∃ ck x y d c', ck = Sh.cI (fun j => G (32 + j)) Sh.ordF k ∧ x = Sh.mI G Sh.ordF k (32 + k) ∧ y = Sh.ordF k ∧ d = Sh.dI (fun j => G (32 + j)) Sh.ordF k ∧ c' = Sh.cI (fun j => G (32 + j)) Sh.ordF (k + 1) ∧ IntKind.i64.wrap x = x ∧ IntKind.i64.wrap y = y ∧ IntKind.i64.wrap (ck + x) = ck + x ∧ IntKind.i64.wrap (ck + x + y) = ck + x + y ∧ IntKind.u8.wrap (ck + x + y) = d ∧ IntKind.i64.wrap ((ck + x + y).tdiv 256) = c' := fun k hk => by
    have q1 := Sh.cI_r hA Sh.ordF_r k
    have q2 := hA k
    have q3 := Sh.ordF_r k
    have q4 : Sh.mI G Sh.ordF k (32 + k) = G (32 + k) := by unfold Sh.mI; rw [if_neg (by omega)]
    refine ⟨_, _, _, _, _, rfl, rfl, rfl, rfl, rfl, ?_, ?_, ?_, ?_, ?_, ?_⟩
    · rw [q4, IntKind.wrap_i64]; dsimp only at q2; omega
    · rw [IntKind.wrap_i64]; omega
    · rw [q4, IntKind.wrap_i64]; dsimp only at q2; omega
    · rw [q4, IntKind.wrap_i64]; dsimp only at q2; omega
    · rw [q4, IntKind.wrap_u8]; rfl
    · rw [q4, Int.tdiv_eq_ediv_of_nonneg (by dsimp only at q2; omega), IntKind.wrap_i64]
      show _ = (Sh.cI (fun j => G (32 + j)) Sh.ordF k + G (32 + k) + Sh.ordF k) / 256
      dsimp only at q2
      omega
  replace hT := Lib.hid hT
  replace hGr := Lib.hid hGr
  replace hSig := Lib.hid hSig
  replace hV1 := Lib.hid hV1
  replace hV2 := Lib.hid hV2
  replace hV3 := Lib.hid hV3
  replace hRt := Lib.hid hRt
  replace hSm := Lib.hid hSm
  replace hRd2 := Lib.hid hRd2
  replace hZlo := Lib.hid hZlo
  replace hZhi := Lib.hid hZhi
  clear hF hB1 hB2 hB3 hS hCv hr1 hr2 hr3 hB hG hK hX2 hby hln hVer hFr hA hlt hRd e3 hyb hN hZ hZr hE hZv e4
  go_enter Tryd.func4, Tryd.ntmps4
  go_wp2_with fail
  refine ha.out.mono ?_
  rintro e w1 ⟨rfl, hb1⟩
  clear ha
  go_wp2_with fail
  refine (hse.out w1 hb1).mono ?_
  rintro e w2 ⟨gx, cx, rfl, _, hRx, hb2⟩
  replace hRx := Lib.hid hRx
  replace hb2 := hb1.trans (hb2.mono hb1.size)
  clear hse hb1
  go_wp2_with fail
  refine (hPub.out gx cx w2 hRx.out hb2).mono ?_
  rintro e w3 ⟨gp, cp, rfl, _, hRp, hb3⟩
  replace hRx := Lib.hid (hRx.out.below hb3)
  replace hRp := Lib.hid hRp
  replace hb3 := hb2.trans (hb3.mono hb2.size)
  clear hb2 hPub
  go_wp2_with fail
  refine (hSig.out gx cx w3 hRx.out hb3).mono ?_
  rintro e w4 ⟨gs, ds, rfl, _, hRs, hb4⟩
  replace hRp := Lib.hid (hRp.out.below hb4)
  replace hRs := Lib.hid hRs
  replace hb4 := hb3.trans (hb4.mono hb3.size)
  have hcs : (64 : Int) ≤ (ds : Int) := by have := hRs.out.cap; omega
  have hcs2 : (32 : Int) ≤ (ds : Int) := by omega
  clear hb3 hSig hRx
  go_wp2_with fail
  refine (hV1.out gp cp gs ds w4 hRp.out hRs.out hb4).mono ?_
  rintro e w5 ⟨rfl, hb5⟩
  replace hRp := Lib.hid (hRp.out.below hb5)
  replace hRs := Lib.hid (hRs.out.below hb5)
  replace hb5 := hb4.trans (hb5.mono hb4.size)
  clear hb4 hV1
  go_wp2_with fail
  refine (hRt.out gs ds w5 hRs.out).mono ?_
  rintro e w6 ⟨rfl, hb6⟩
  replace hRp := Lib.hid (hRp.out.below hb6)
  replace hRs := Lib.hid (hRs.out.below hb6)
  replace hb6 := hb5.trans (hb6.mono hb5.size)
  clear hb5 hRt
  go_wp2_with fail
  refine calls_at (fun w7 hW => ?_)
  have ho : Below w6.heap.size w6 w7 := by rw [hW]; exact (Below.refl _ _).alloc (Nat.le_refl _) _
  have hRo : RowB w7 w6.heap.size 32 32 Sh.ordF := by rw [hW]; exact ⟨_, heap_alloc_new w6 _, Nat.le_refl _, by unfold maxLen; decide, rfl, by kernel_rfl⟩
  obtain ⟨go, hgo⟩ : ∃ go, go = w6.heap.size := ⟨_, rfl⟩
  rw [← hgo] at hRo ⊢
  clear hW hgo
  replace hRp := Lib.hid (hRp.out.below ho)
  replace hRs := Lib.hid (hRs.out.below ho)
  replace hRo := Lib.hid hRo
  replace ho := hb6.trans (ho.mono hb6.size)
  clear hb6
  refine (copyB_c gs 0 64 ds G (by decide) (by decide) w7 (fun j hj => by rw [Nat.zero_add]; exact hRs.out.cell j hj)).mono ?_
  rintro e w8 ⟨GM, dm, rfl, hGM, hRm, hb8⟩
  replace hRm : RowB w8 GM 64 dm (Sh.mI G Sh.ordF 0) := hRm.congr fun j _ => by unfold Sh.mI; rw [if_neg (by omega)]
  replace hRm := Lib.hid hRm
  replace hGM := Lib.hid hGM
  replace hb8 := Lib.hid hb8
  replace ho := Lib.hid ho
  go_wp2_with fail
  go_loopw [12, 13] (fun c i wr => ∃ k : Nat, k ≤ 32 ∧ i = .int .i64 k ∧ c = .int .i64 (Sh.cI (fun j => G (32 + j)) Sh.ordF k) ∧ RowB wr GM 64 dm (Sh.mI G Sh.ordF k) ∧ Below w7.heap.size w7 wr) (fun _ i _ => (32 - intOf i).toNat)
  case atStart => exact ⟨0, by omega, rfl, rfl, hRm.out, hb8.out⟩
  case round =>
    clear hRm hb8
    obtain ⟨k, hk, hi, hc, hR, hb⟩ := hrel
    subst hi hc
    by_cases he : k = 32
    · subst he
      have hsz7 := ho.out.size
      replace hRp := Lib.hid (hRp.out.below hb)
      replace hRs := Lib.hid (hRs.out.below hb)
      replace hR := Lib.hid hR
      replace hb := ho.out.trans (hb.mono hsz7)
      clear hT hRo hGM ho hk hsz7
      go_wp2_with fail
      refine (hRd2.out wr hb).mono ?_
      rintro e w9 ⟨gy, cy, rfl, _, hRy, hb9⟩
      replace hRp := Lib.hid (hRp.out.below hb9)
      replace hRs := Lib.hid (hRs.out.below hb9)
      replace hR := Lib.hid (hR.out.below hb9)
      replace hRy := Lib.hid hRy
      replace hb9 := hb.trans (hb9.mono hb.size)
      clear hb hRd2
      go_wp2_with fail
      refine (hV2.out gp cp GM dm w9 hRp.out hR.out hb9).mono ?_
      rintro e w10 ⟨rfl, hb10⟩
      replace hRp := Lib.hid (hRp.out.below hb10)
      replace hRs := Lib.hid (hRs.out.below hb10)
      replace hRy := Lib.hid (hRy.out.below hb10)
      replace hb10 := hb9.trans (hb10.mono hb9.size)
      clear hb9 hR hV2
      go_wp2_with fail
      refine (copyB_c gs 0 32 ds G (by decide) (by decide) w10 (fun j hj => by rw [Nat.zero_add]; exact hRs.out.cell j (by omega))).mono ?_
      rintro e w11 ⟨gz, cz, rfl, hgz, hRz, hb11⟩
      have lp := hRp.out.lt
      have ls := hRs.out.lt
      have ly := hRy.out.lt
      replace hRp := Lib.hid (hRp.out.below hb11)
      replace hRs := Lib.hid (hRs.out.below hb11)
      replace hRy := Lib.hid (hRy.out.below hb11)
      have hown := Lib.hid ((hRz.congr (f' := fun j => Z (0 + j)) (fun j hj => by rw [Nat.zero_add]; exact (hZlo.out j hj).symm)).own hgz)
      have hX : BAt w11 (some ⟨gy, 0, none⟩) 32 (fun j => Z (0 + 32 + j)) := by
        rw [show (fun j => Z (0 + 32 + j)) = fun j => Z (32 + j) from rfl, hZhi.out]
        exact hRy.out.bat (Nat.le_refl _)
      have hz1 := hb11.size
      replace hX := Lib.hid hX
      replace hb11 := hb10.trans (hb11.mono hb10.size)
      have npz : gp ≠ gz := by omega
      have nsz : gs ≠ gz := by omega
      have nyz : gy ≠ gz := by omega
      have lgz : w.heap.size ≤ gz := by have := hb10.size; omega
      clear hb10 hRz hZlo hZhi lp ls ly
      go_wp2_with (at_builtin; refine wpList_appOB rfl rfl rfl hown.out rfl hX.out (by decide) hz1 ?_; intro v' w12 hO hgr _)
      obtain ⟨gq, cq, rfl, _, hRq⟩ := own_rowB hO (by decide)
      replace hRp := Lib.hid (hRp.out.grown hgr (fun e => npz (by injection e)))
      replace hRs := Lib.hid (hRs.out.grown hgr (fun e => nsz (by injection e)))
      replace hRy := Lib.hid (hRy.out.grown hgr (fun e => nyz (by injection e)))
      replace hRq : RowB w12 gq 64 cq Z := hRq.congr fun j _ => by rw [Nat.zero_add]
      replace hRq := Lib.hid hRq
      have hb12 : Below w.heap.size w w12 := hb11.grown hgr hb11.size (fun k hk => by have : gz = k := Option.some.inj hk; omega)
      clear hb11 hO hgr hown hX npz nsz nyz lgz hz1 hgz
      go_wp2_with fail
      refine (hSm.out gy cy gs ds w12 hRy.out hRs.out).mono ?_
      rintro e w13 ⟨rfl, hb13⟩
      replace hRp := Lib.hid (hRp.out.below hb13)
      replace hRq := Lib.hid (hRq.out.below hb13)
      replace hb13 := hb12.trans (hb13.mono hb12.size)
      clear hb12 hSm hRy
      go_wp2_with fail
      refine (hV3.out gp cp gq cq w13 hRp.out hRq.out hb13).mono ?_
      rintro e w14 ⟨rfl, hb14⟩
      replace hb14 := hb13.trans (hb14.mono hb13.size)
      clear hb13 hV3 hRp hRq hRs
      go_wp2_with fail
      go_returns
      exact ⟨by simp, hb14⟩
    · have hk0 : (0 : Int) ≤ (k : Int) := by omega
      have hk1 : (k : Int) < 32 := by omega
      obtain ⟨ck, x, y, d, c', q1, q2, q3, q4, q5, f1, f2, f3, f4, f5, f6⟩ := hT.out k (by omega)
      rw [← q1]
      obtain ⟨m, hm⟩ : ∃ m, m = 32 + k := ⟨_, rfl⟩
      have hwm : IntKind.i64.wrap (32 + (k : Int)) = (m : Int) := by rw [IntKind.wrap_i64]; omega
      have cm := hR.cell m (by omega)
      have fm := hR.frozen m
      have co := (hRo.out.below hb).cell k (by omega)
      rw [← q3] at co
      have hst := hR.set_ m (by omega) d
      rw [hm, q4, ← Sh.mI_step] at hst
      rw [hm, ← q2, ← hm] at cm
      rw [← q4, ← hm] at hst
      have hm0 : (0 : Int) ≤ (m : Int) := by omega
      have hm1 : (m : Int) < 64 := by omega
      have hst2 := Lib.hid hst
      have hb2 := Lib.hid (hb.setCell (p := ⟨GM, m, none⟩) hGM.out (.int .u8 d))
      replace q5 := Lib.hid q5
      have hkk : k + 1 ≤ 32 := by omega
      clear hR hb hst q1 q2 q3 q4 hT hk he hm
      go_wp2_with fail
      go_region
      go_wp2_with fail
      exact ⟨⟨k + 1, hkk, by simp, by rw [q5.out], hst2.out, hb2.out.drew⟩, by simp [intOf]; omega⟩
set_option maxRecDepth 20000 in
set_option maxHeartbeats 4000000 in
theorem back_long (p1 p2 p3 : Option Addr) (n1 c1 n2 c2 n3 c3 : Nat) (h : (1000 : Int) < n2 ∨ ((n2 : Int) ≤ 1000 ∧ (100 : Int) < n1) ∨ ((n2 : Int) ≤ 1000 ∧ (n1 : Int) ≤ 100 ∧ (64 : Int) < n3)) (w : World) (hS : ShP w) (hCv : CvP w) : Calls Tryd.prog 4 #[.slice p1 n1 c1, .slice p2 n2 c2, .slice p3 n3 c3] w (PostV (.bool true) w) := by
  have ha := Lib.hid (awake5_c w hS hCv)
  replace h := Lib.hid h
  clear hS hCv
  go_enter Tryd.func4, Tryd.ntmps4
  go_wp2_with fail
  refine ha.out.mono ?_
  rintro e w1 ⟨rfl, hb0⟩
  replace hb0 := Lib.hid hb0
  clear ha
  rcases h.out with h1 | ⟨h1, h2⟩ | ⟨h1, h2, h3⟩
  all_goals (clear h; go_wp2; go_returns; exact ⟨rfl, hb0.out⟩)
theorem back_any (p1 : Option Addr) (n1 c1 : Nat) (b1 : Nat → Int) (p2 : Option Addr) (n2 c2 : Nat) (b2 : Nat → Int) (p3 : Option Addr) (n3 c3 : Nat) (b3 : Nat → Int) (hr1 : Sc.Byt b1) (hr2 : Sc.Byt b2) (hr3 : Sc.Byt b3) (hc2 : n2 ≤ c2) (w : World) (hB1 : BAt w p1 n1 b1) (hB2 : BAt w p2 n2 b2) (hB3 : BAt w p3 n3 b3) (hS : ShP w) (hCv : CvP w) : Calls Tryd.prog 4 #[.slice p1 n1 c1, .slice p2 n2 c2, .slice p3 n3 c3] w (PostV (.bool true) w) := by
  by_cases h : (1000 : Int) < n2 ∨ ((n2 : Int) ≤ 1000 ∧ (100 : Int) < n1) ∨ ((n2 : Int) ≤ 1000 ∧ (n1 : Int) ≤ 100 ∧ (64 : Int) < n3)
  · exact back_long p1 p2 p3 n1 c1 n2 c2 n3 c3 h w hS hCv
  · exact back_short p1 n1 c1 b1 p2 n2 c2 b2 p3 n3 c3 b3 (by omega) (by omega) (by omega) hr1 hr2 hr3 hc2 w hB1 hB2 hB3 hS hCv
end Go.Proofs.YtigcobcpfmnhoaaDoor
namespace Go.Proofs.YtigcobcpfmnhoaaDoor
open Go.ChangeShapes Go.WideShapes Go.ChangeAt Go.WideMaps Go.WideElems Go.RowKit
set_option maxRecDepth 100000 in
theorem signBack_lifted (os : Os) (started : os.Started) (H : Type) (enc : TypeId × Value → H) :
    ReturnsInHanded {} Tryd.checked os 4 .any (fun w args => (Rows.signBackSpec.pre enc Tryd.prog Tryd.f4 [] false w args ∧ laidMetH Tryd.prog laidS w) ∧ sizedMet enc Tryd.prog Tryd.f4 (OpenSpec.ofChange Rows.signBackSpec) false w args)
      (Rows.signBackSpec.post enc Tryd.prog Tryd.f4 false true false false) := by
  refine returnsInHanded_of_change_and (C := Tryd.checked) (X := fun w _ => laidMetH Tryd.prog laidS w) (fun _ _ _ hh h => h.of_heap hh) own_ started (by kernel_rfl) Tryd.func4
    (ChangeSpec.witness_shaped (enc := enc) (C := Tryd.checked) (os := os) (X := fun w _ => laidMetH Tryd.prog laidS w) false (World.doorLaid Tryd.prog 400 os) #[.slice none 0 0, .slice none 0 0, .slice none 0 0] 8 rfl (World.shaped_of_RefB (by kernel_rfl) (by kernel_rfl)) (by kernel_rfl) (by kernel_rfl) (by kernel_rfl) (door_met os _)) ?_
  intro W base args ds gs before hval0 hW _ _ hL _
  have hval : ∀ (j : Nat) t v, Tryd.f4.params[j]? = some t → args[j]? = some v → Value.okWide Tryd.prog W .any base t v := hval0
  have hW' := hW
  obtain ⟨p, q, hA0, hV, rfl, hfz, hnd⟩ := hW
  have hA : DataW.TrodAll enc Tryd.prog W 0 (fun _ => true) true Tryd.f4.params.toList args.toList ds p := hA0
  rw [Tryd.params4] at hA hval
  obtain ⟨v0, v1, v2, d0, d1, d2, q0, q1, q2, rfl, rfl, rfl, h0, h1, h2⟩ := trodAll_three hA
  obtain ⟨rfl, rfl⟩ := trodVars_none hV
  have hv0 := hval 0 22 v0 rfl rfl
  have hv1 := hval 1 22 v1 rfl rfl
  have hv2 := hval 2 22 v2 rfl rfl
  clear hA0 hval0
  simp only [List.append_nil] at hW'
  obtain ⟨hCv, hS⟩ := of_laid hL
  have hlt : ∀ x ∈ q0 ++ q1 ++ q2, x.block < W.heap.size := fun x hx => hW'.lt x hx
  obtain ⟨a0, n0, c0, b0, rfl, hr0, hB0, hc0⟩ := open_bs hv0 h0
  obtain ⟨a1, n1, c1, b1, rfl, hr1, hB1, hc1⟩ := open_bs hv1 h1
  obtain ⟨a2, n2, c2, b2, rfl, hr2, hB2, hc2⟩ := open_bs hv2 h2
  clear hv0 hv1 hv2
  refine (back_any a0 n0 c0 b0 a1 n1 c1 b1 a2 n2 c2 b2 hr0 hr1 hr2 hc1 W hB0 hB1 hB2 hS hCv).mono fun e W' ⟨he, hb⟩ => ?_
  subst he
  exact ⟨_, rfl, post_of_below (pa := q0 ++ q1 ++ q2) (pv := []) hW' (fun _ _ _ => trodAll_mk1 (shut_bool bool_under true))
    (fun sp hsp => ⟨q0, (q1 ++ q2), WideElems.Trod_stays (by kernel_rfl) (by kernel_rfl) (of_decide_eq_true (by kernel_rfl)) h0 (fun x hx => hb.same (hlt x (by simp [hx]))) (fun x hx => hsp x (by simp [hx])), ⟨q1, q2, WideElems.Trod_stays (by kernel_rfl) (by kernel_rfl) (of_decide_eq_true (by kernel_rfl)) h1 (fun x hx => hb.same (hlt x (by simp [hx]))) (fun x hx => hsp x (by simp [hx])), ⟨q2, [], WideElems.Trod_stays (by kernel_rfl) (by kernel_rfl) (of_decide_eq_true (by kernel_rfl)) h2 (fun x hx => hb.same (hlt x (by simp [hx]))) (fun x hx => hsp x (by simp [hx])), rfl, by simp⟩, by simp⟩, by simp⟩)
    (fun _ _ => rfl) (by simp) hb
    (ok_one (by kernel_rfl) rfl (okWide_bool_mk bool_under true))⟩
theorem signBack_row : Rows.SignBackSaid :=
  OpenClaim.holds_of_wide 4 Tryd.f4 rfl rfl rfl rfl rfl rfl rfl ⟨rfl, rfl, rfl, rfl, rfl⟩ rfl rfl rfl rfl rfl (by kernel_rfl) Tryd.func4 (by kernel_rfl)
    (of_decide_eq_true (by kernel_rfl)) (by unfold Func.isWrapper; first | (rw [if_pos (by decide +kernel)]; kernel_rfl) | (rw [if_neg (by decide +kernel)]; exact ⟨rfl, rfl⟩))
    (fun os started H enc _ => signBack_lifted os started H enc)
theorem signBack_holds : Rows.SignBackCardSaid :=
  Claim7.holds_tied_plain_at .later [] [.data, .data, .data, .data] true (true, "a06a5f42cf0c09f176d34a59e5acbcd267f18f753cd36d94d019ae18e5601fbf") false
    signBack_row (fun _ h => by cases h) (by kernel_rfl) (fun _ h => by cases h) signBack_row_tie rfl ⟨rfl, rfl⟩ (by kernel_rfl) rfl
    (fun f fn hf hfn => by
      obtain rfl : f = 4 := Option.some.inj ((show Tryd.prog.funcNamed "buttress/buttresslaw05.SignBack" = some 4 by kernel_rfl).symm.trans hf) |>.symm
      obtain rfl : fn = Tryd.f4 := (Option.some.inj (Tryd.func4.symm.trans hfn)).symm
      exact ⟨by kernel_rfl, fun j t ht => by
        rw [Tryd.params4] at ht
        have hm : t ∈ [22] := by simpa using Array.mem_of_getElem? ht
        have hall : ([22].all fun u => !Tryd.prog.wantsStandIn u) = true := by kernel_rfl
        exact (show Tryd.prog.wantsStandIn t = false by simpa using List.all_eq_true.1 hall t hm)⟩)
    (by kernel_rfl)
end Go.Proofs.YtigcobcpfmnhoaaDoor
