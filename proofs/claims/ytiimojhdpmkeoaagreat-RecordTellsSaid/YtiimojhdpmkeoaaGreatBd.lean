/- The bag's bytes lie apart; ApartBytes. -/
import Derived.Test.YtiimojhdpmkeoaaGreatBb
import Derived.Test.YtiimojhdpmkeoaaGreatBc
import Derived.Test.YtiimojhdpmkeoaaGreatFl
namespace Go.Proofs.YtiimojhdpmkeoaaGreat
open Go.RowKit
theorem StB.of {B L C K : Nat} {nl : Nat → Bool} {gr nr cr : Nat → Nat} {f0 : Nat → Nat → Int} {vs : List Value} {w : World} (hl : vs.length = K) (hP : RowQ w L C vs) (hv : ∀ k, k < K → vs.getD k undef = rowV nl gr nr cr k) (hR : ∀ k, k < K → nl k = false → RowB w (gr k) (nr k) (cr k) (f0 k)) : StB B w L K nl gr nr cr f0 w := by
  refine ⟨?_, hR, Below.refl _ _, fun _ _ _ => rfl⟩
  have h := hP.ptr
  obtain ⟨cur, a1, a2, a3⟩ := h
  rw [hl] at a2 a3
  exact ⟨cur, a1, a2, fun k hk => (a3 k hk).trans (congrArg some (hv k hk))⟩
set_option maxRecDepth 100000 in
set_option maxHeartbeats 8000000 in
theorem apartB_c (B Bg L C K : Nat) (nl : Nat → Bool) (gr nr cr : Nat → Nat) (f0 : Nat → Nat → Int) (vs : List Value) (w : World) (hB : Blk w Bg 74 (bagB (.slice (some ⟨L, 0, none⟩) K C))) (hl : vs.length = K) (hP : RowQ w L C vs) (hv : ∀ k, k < K → vs.getD k undef = rowV nl gr nr cr k)
    (hR : ∀ k, k < K → nl k = false → RowB w (gr k) (nr k) (cr k) (f0 k)) (hA : ApB B L K nl gr nr) (hBB : ∀ k, k < K → nl k = false → gr k ≠ Bg) (hBL : B ≤ Bg) :
    Calls Tryz.prog 34 #[.pointer (some ⟨Bg, 0, none⟩)] w fun e w' => e = .returned (.bool true) ∧ Below B w w' := by
  have hlt := hB.lt
  have hb : Below B w w := Below.refl _ _
  have hfl := fun w' (hsz : B ≤ w'.heap.size) h1 h2 => flatBytes_c B L K C nl gr nr cr f0 w' hA hsz (StB.of (B := B) (C := C) hl h1 hv h2)
  clear hA
  replace hfl := Lib.hid hfl
  replace hB := Lib.hid hB
  replace hP := Lib.hid hP
  replace hR := Lib.hid hR
  replace hl := Lib.hid hl
  replace hv := Lib.hid hv
  replace hb := Lib.hid hb
  replace hBB := Lib.hid hBB
  have cw : w.cell? ⟨Bg, 0, none⟩ = some (.slice none 0 0) := hB.out.cell 0
  go_enter Tryz.func34, Tryz.ntmps34
  go_wp2_with fail
  clear cw
  refine (flatLimbs_0 _).mono ?_
  rintro e w1 ⟨rfl, hb2⟩
  replace hb := Lib.hid (hb.out.trans (hb2.mono (Nat.le_trans hBL (Nat.le_of_lt hB.out.lt))))
  replace hB := Lib.hid (hB.out.below hb2)
  replace hP := Lib.hid (hP.out.below hb2)
  have hR3 := fun k hk hn => (hR.out k hk hn).below hb2
  replace hR := Lib.hid hR3
  clear hR3
  clear hb2
  have cw : w1.cell? ⟨Bg, 1, none⟩ = some (.slice none 0 0) := hB.out.cell 1
  go_wp2_with fail
  clear cw
  refine (flatWords_0 _).mono ?_
  rintro e w2 ⟨rfl, hb2⟩
  replace hb := Lib.hid (hb.out.trans (hb2.mono (Nat.le_trans hBL (Nat.le_of_lt hB.out.lt))))
  replace hB := Lib.hid (hB.out.below hb2)
  replace hP := Lib.hid (hP.out.below hb2)
  have hR3 := fun k hk hn => (hR.out k hk hn).below hb2
  replace hR := Lib.hid hR3
  clear hR3
  clear hb2
  have cw : w2.cell? ⟨Bg, 2, none⟩ = some (.slice none 0 0) := hB.out.cell 2
  go_wp2_with fail
  clear cw
  refine (flatInts_0 _).mono ?_
  rintro e w3 ⟨rfl, hb2⟩
  replace hb := Lib.hid (hb.out.trans (hb2.mono (Nat.le_trans hBL (Nat.le_of_lt hB.out.lt))))
  replace hB := Lib.hid (hB.out.below hb2)
  replace hP := Lib.hid (hP.out.below hb2)
  have hR3 := fun k hk hn => (hR.out k hk hn).below hb2
  replace hR := Lib.hid hR3
  clear hR3
  clear hb2
  have cw : w3.cell? ⟨Bg, 3, none⟩ = some (.slice none 0 0) := hB.out.cell 3
  go_wp2_with fail
  clear cw
  refine (flatLongs_0 _).mono ?_
  rintro e w4 ⟨rfl, hb2⟩
  replace hb := Lib.hid (hb.out.trans (hb2.mono (Nat.le_trans hBL (Nat.le_of_lt hB.out.lt))))
  replace hB := Lib.hid (hB.out.below hb2)
  replace hP := Lib.hid (hP.out.below hb2)
  have hR3 := fun k hk hn => (hR.out k hk hn).below hb2
  replace hR := Lib.hid hR3
  clear hR3
  clear hb2
  have cw : w4.cell? ⟨Bg, 4, none⟩ = some (.slice none 0 0) := hB.out.cell 4
  go_wp2_with fail
  clear cw
  refine (flatTexts_0 _).mono ?_
  rintro e w5 ⟨rfl, hb2⟩
  replace hb := Lib.hid (hb.out.trans (hb2.mono (Nat.le_trans hBL (Nat.le_of_lt hB.out.lt))))
  replace hB := Lib.hid (hB.out.below hb2)
  replace hP := Lib.hid (hP.out.below hb2)
  have hR3 := fun k hk hn => (hR.out k hk hn).below hb2
  replace hR := Lib.hid hR3
  clear hR3
  clear hb2
  have cw : w5.cell? ⟨Bg, 5, none⟩ = some (.slice (some ⟨L, 0, none⟩) K C) := hB.out.cell 5
  go_wp2_with fail
  clear cw
  have hsz : B ≤ w5.heap.size := Nat.le_trans hBL (Nat.le_of_lt hB.out.lt)
  refine (hfl.out w5 hsz hP.out hR.out).mono ?_
  rintro e w6 ⟨rfl, hb2, hkp⟩
  replace hb := Lib.hid (hb.out.trans hb2)
  have hB2 : Blk w6 Bg 74 (bagB (.slice (some ⟨L, 0, none⟩) K C)) := (hkp Bg hB.out.lt hBB.out).trans hB.out
  replace hB := Lib.hid hB2
  clear hb2 hkp hB2 hP hR hfl hBB hsz hl hv
  have cw : w6.cell? ⟨Bg, 6, none⟩ = some (.slice none 0 0) := hB.out.cell 6
  go_wp2_with fail
  clear cw
  refine (flatTruths_0 _).mono ?_
  rintro e w7 ⟨rfl, hb2⟩
  replace hb := Lib.hid (hb.out.trans (hb2.mono (Nat.le_trans hBL (Nat.le_of_lt hB.out.lt))))
  replace hB := Lib.hid (hB.out.below hb2)
  clear hb2
  have cw : w7.cell? ⟨Bg, 7, none⟩ = some (.slice none 0 0) := hB.out.cell 7
  go_wp2_with fail
  clear cw
  refine (flatRows_0 _).mono ?_
  rintro e w8 ⟨rfl, hb2⟩
  replace hb := Lib.hid (hb.out.trans (hb2.mono (Nat.le_trans hBL (Nat.le_of_lt hB.out.lt))))
  replace hB := Lib.hid (hB.out.below hb2)
  clear hb2
  have cw : w8.cell? ⟨Bg, 8, none⟩ = some (.slice none 0 0) := hB.out.cell 8
  go_wp2_with fail
  clear cw
  refine (flatDots_0 _).mono ?_
  rintro e w9 ⟨rfl, hb2⟩
  replace hb := Lib.hid (hb.out.trans (hb2.mono (Nat.le_trans hBL (Nat.le_of_lt hB.out.lt))))
  replace hB := Lib.hid (hB.out.below hb2)
  clear hb2
  have cw : w9.cell? ⟨Bg, 9, none⟩ = some (.slice none 0 0) := hB.out.cell 9
  go_wp2_with fail
  clear cw
  refine (flatRecords_0 _).mono ?_
  rintro e w10 ⟨rfl, hb2⟩
  replace hb := Lib.hid (hb.out.trans (hb2.mono (Nat.le_trans hBL (Nat.le_of_lt hB.out.lt))))
  replace hB := Lib.hid (hB.out.below hb2)
  clear hb2
  have cw : w10.cell? ⟨Bg, 10, none⟩ = some (.slice none 0 0) := hB.out.cell 10
  go_wp2_with fail
  clear cw
  refine (flatLeaves_0 _).mono ?_
  rintro e w11 ⟨rfl, hb2⟩
  replace hb := Lib.hid (hb.out.trans (hb2.mono (Nat.le_trans hBL (Nat.le_of_lt hB.out.lt))))
  replace hB := Lib.hid (hB.out.below hb2)
  clear hb2
  have cw : w11.cell? ⟨Bg, 11, none⟩ = some (.slice none 0 0) := hB.out.cell 11
  go_wp2_with fail
  clear cw
  refine (flatGrants_0 _).mono ?_
  rintro e w12 ⟨rfl, hb2⟩
  replace hb := Lib.hid (hb.out.trans (hb2.mono (Nat.le_trans hBL (Nat.le_of_lt hB.out.lt))))
  replace hB := Lib.hid (hB.out.below hb2)
  clear hb2
  have cw : w12.cell? ⟨Bg, 12, none⟩ = some (.slice none 0 0) := hB.out.cell 12
  go_wp2_with fail
  clear cw
  refine (flatNodes_0 _).mono ?_
  rintro e w13 ⟨rfl, hb2⟩
  replace hb := Lib.hid (hb.out.trans (hb2.mono (Nat.le_trans hBL (Nat.le_of_lt hB.out.lt))))
  replace hB := Lib.hid (hB.out.below hb2)
  clear hb2
  have cw : w13.cell? ⟨Bg, 13, none⟩ = some (.slice none 0 0) := hB.out.cell 13
  go_wp2_with fail
  clear cw
  refine (flatStubs_0 _).mono ?_
  rintro e w14 ⟨rfl, hb2⟩
  replace hb := Lib.hid (hb.out.trans (hb2.mono (Nat.le_trans hBL (Nat.le_of_lt hB.out.lt))))
  replace hB := Lib.hid (hB.out.below hb2)
  clear hb2
  have cw : w14.cell? ⟨Bg, 14, none⟩ = some (.slice none 0 0) := hB.out.cell 14
  go_wp2_with fail
  clear cw
  refine (flatProofs_0 _).mono ?_
  rintro e w15 ⟨rfl, hb2⟩
  replace hb := Lib.hid (hb.out.trans (hb2.mono (Nat.le_trans hBL (Nat.le_of_lt hB.out.lt))))
  replace hB := Lib.hid (hB.out.below hb2)
  clear hb2
  have cw : w15.cell? ⟨Bg, 15, none⟩ = some (.slice none 0 0) := hB.out.cell 15
  go_wp2_with fail
  clear cw
  refine (flatRoots_0 _).mono ?_
  rintro e w16 ⟨rfl, hb2⟩
  replace hb := Lib.hid (hb.out.trans (hb2.mono (Nat.le_trans hBL (Nat.le_of_lt hB.out.lt))))
  replace hB := Lib.hid (hB.out.below hb2)
  clear hb2
  have cw : w16.cell? ⟨Bg, 16, none⟩ = some (.slice none 0 0) := hB.out.cell 16
  go_wp2_with fail
  clear cw
  refine (flatEvidenceRow_0 _).mono ?_
  rintro e w17 ⟨rfl, hb2⟩
  replace hb := Lib.hid (hb.out.trans (hb2.mono (Nat.le_trans hBL (Nat.le_of_lt hB.out.lt))))
  replace hB := Lib.hid (hB.out.below hb2)
  clear hb2
  have cw : w17.cell? ⟨Bg, 17, none⟩ = some (.slice none 0 0) := hB.out.cell 17
  go_wp2_with fail
  clear cw
  refine (flatFrames_0 _).mono ?_
  rintro e w18 ⟨rfl, hb2⟩
  replace hb := Lib.hid (hb.out.trans (hb2.mono (Nat.le_trans hBL (Nat.le_of_lt hB.out.lt))))
  replace hB := Lib.hid (hB.out.below hb2)
  clear hb2
  have cw : w18.cell? ⟨Bg, 18, none⟩ = some (.slice none 0 0) := hB.out.cell 18
  go_wp2_with fail
  clear cw
  refine (flatPackets_0 _).mono ?_
  rintro e w19 ⟨rfl, hb2⟩
  replace hb := Lib.hid (hb.out.trans (hb2.mono (Nat.le_trans hBL (Nat.le_of_lt hB.out.lt))))
  replace hB := Lib.hid (hB.out.below hb2)
  clear hb2
  have cw : w19.cell? ⟨Bg, 19, none⟩ = some (.slice none 0 0) := hB.out.cell 19
  go_wp2_with fail
  clear cw
  refine (flatEntries_0 _).mono ?_
  rintro e w20 ⟨rfl, hb2⟩
  replace hb := Lib.hid (hb.out.trans (hb2.mono (Nat.le_trans hBL (Nat.le_of_lt hB.out.lt))))
  replace hB := Lib.hid (hB.out.below hb2)
  clear hb2
  have cw : w20.cell? ⟨Bg, 20, none⟩ = some (.slice none 0 0) := hB.out.cell 20
  go_wp2_with fail
  clear cw
  refine (flatHeldRow_0 _).mono ?_
  rintro e w21 ⟨rfl, hb2⟩
  replace hb := Lib.hid (hb.out.trans (hb2.mono (Nat.le_trans hBL (Nat.le_of_lt hB.out.lt))))
  replace hB := Lib.hid (hB.out.below hb2)
  clear hb2
  have cw : w21.cell? ⟨Bg, 21, none⟩ = some (.slice none 0 0) := hB.out.cell 21
  go_wp2_with fail
  clear cw
  refine (flatConfigs_0 _).mono ?_
  rintro e w22 ⟨rfl, hb2⟩
  replace hb := Lib.hid (hb.out.trans (hb2.mono (Nat.le_trans hBL (Nat.le_of_lt hB.out.lt))))
  replace hB := Lib.hid (hB.out.below hb2)
  clear hb2
  have cw : w22.cell? ⟨Bg, 22, none⟩ = some (.slice none 0 0) := hB.out.cell 22
  go_wp2_with fail
  clear cw
  refine (flatSteps_0 _).mono ?_
  rintro e w23 ⟨rfl, hb2⟩
  replace hb := Lib.hid (hb.out.trans (hb2.mono (Nat.le_trans hBL (Nat.le_of_lt hB.out.lt))))
  replace hB := Lib.hid (hB.out.below hb2)
  clear hb2
  have cw : w23.cell? ⟨Bg, 23, none⟩ = some (.slice none 0 0) := hB.out.cell 23
  go_wp2_with fail
  clear cw
  refine (flatTales_0 _).mono ?_
  rintro e w24 ⟨rfl, hb2⟩
  replace hb := Lib.hid (hb.out.trans (hb2.mono (Nat.le_trans hBL (Nat.le_of_lt hB.out.lt))))
  replace hB := Lib.hid (hB.out.below hb2)
  clear hb2
  clear hB
  go_wp2
  go_returns
  exact ⟨rfl, hb.out⟩
end Go.Proofs.YtiimojhdpmkeoaaGreat
