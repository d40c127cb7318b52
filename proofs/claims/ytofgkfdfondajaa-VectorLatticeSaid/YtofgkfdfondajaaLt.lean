/- The walk of VectorLattice. -/
import Derived.Test.YtofgkfdfondajaaWy
namespace Go.Proofs.Ytofgkfdfondajaa
open Go.RowKit
/-- covering told by what vectors say -/
theorem covB_val {n m : Nat} {D E : Nat → Int} (hD : RightD n D) (hE : RightD m E) : covB n D m E = true ↔ ∀ c, valD m E c ≤ valD n D c := by
  have h1 : rightD n D = true := decide_eq_true hD
  have h2 : rightD m E = true := decide_eq_true hE
  rw [← covers_val hD hE]
  unfold covB anyF
  rw [h1, h2]
  simp only [Bool.true_and, Bool.not_eq_true', decide_eq_false_iff_not, not_exists, not_and]
  exact ⟨fun h i hi => by have := h i hi; simpa using this, fun h i hi => by simpa using h i hi⟩
theorem eqL_iff {xs ys : List Int} {n m : Nat} (hx : xs.length = 2 * n) (hy : ys.length = 2 * m) (h1 : RightD n (lD xs)) (h2 : RightD m (lD ys)) : eqL xs ys = true ↔ ∀ q, valD n (lD xs) q = valD m (lD ys) q :=
  ⟨fun h q => by
    obtain rfl : xs = ys := of_decide_eq_true h
    rw [show n = m by omega], fun h => decide_eq_true (eqL_val hx hy h1 h2 h).1⟩
theorem bool_ext {a b : Bool} (h : a = true ↔ b = true) : a = b := by cases a <;> cases b <;> simp_all
set_option maxRecDepth 20000 in
set_option maxHeartbeats 8000000 in
theorem vectorLattice_c (p0 : Option Addr) (n0 c0 : Nat) (l0 : List Int) (p1 : Option Addr) (n1 c1 : Nat) (l1 : List Int) (p2 : Option Addr) (n2 c2 : Nat) (l2 : List Int) (w : World) (h0 : DotsL w p0 n0 l0) (h1 : DotsL w p1 n1 l1) (h2 : DotsL w p2 n2 l2) :
    Calls Try.prog 4 #[.slice p0 n0 c0, .slice p1 n1 c1, .slice p2 n2 c2] w (AwP w) := by
  have hb := Below.refl w.heap.size w
  replace h0 := Lib.hid h0
  replace h1 := Lib.hid h1
  replace h2 := Lib.hid h2
  go_enter Try.func4, Try.ntmps4
  go_wp2_with fail
  refine (awake_c w).mono ?_
  rintro e w1 ⟨rfl, hb1⟩
  replace hb := hb.trans (hb1.mono hb.size)
  clear hb1
  go_wp2_with fail
  refine calls_at (fun w2 hW => ?_)
  have hB : Blk w2 w1.heap.size 22 #[.slice p0 n0 c0, .slice p1 n1 c1, .slice p2 n2 c2] := by rw [hW]; exact Blk.new _ _ _
  have hb2 : Below w1.heap.size w1 w2 := by rw [hW]; exact (Below.refl _ _).alloc (Nat.le_refl _) _
  clear hW
  replace hb := hb.trans (hb2.mono hb.size)
  clear hb2
  refine (small_c _ 3 3 (sel3 p0 p1 p2) (sel3 n0 n1 n2) (sel3 c0 c1 c2) w2 (rows_at hB 3 _ (fun i hi => by have h : i = 0 ∨ i = 1 ∨ i = 2 := (by omega); rcases h with rfl | rfl | rfl <;> rfl))).mono ?_
  rintro e w3 ⟨⟨sm, rfl, hsm⟩, hb3⟩
  replace hsm := Lib.hid hsm
  clear hB
  replace hb := hb.trans (hb3.mono hb.size)
  clear hb3
  cases sm
  · go_wp2
    go_returns
    exact ⟨rfl, hb⟩
  obtain ⟨_, hsm⟩ := hsm.out rfl
  have hn0 : n0 ≤ 1000 := Nat.le_trans (hsm 0 (by decide)) (by decide)
  have hn1 : n1 ≤ 1000 := Nat.le_trans (hsm 1 (by decide)) (by decide)
  have hn2 : n2 ≤ 1000 := Nat.le_trans (hsm 2 (by decide)) (by decide)
  clear hsm
  have hsc := vright_c p0 n0 c0 (lD l0) (by omega) w3 (h0.out.below hb).2
  replace hsc := Lib.hid hsc
  go_wp2_with fail
  refine hsc.out.mono ?_
  rintro e w4 ⟨rfl, hb4⟩
  clear hsc
  replace hb := hb.trans (hb4.mono hb.size)
  clear hb4
  cases hR0 : rightD n0 (lD l0)
  · clear hR0
    go_wp2
    go_returns
    exact ⟨rfl, hb⟩
  replace hR0 := Lib.hid (show RightD n0 (lD l0) from of_decide_eq_true hR0)
  have hsc := vright_c p1 n1 c1 (lD l1) (by omega) w4 (h1.out.below hb).2
  replace hsc := Lib.hid hsc
  go_wp2_with fail
  refine hsc.out.mono ?_
  rintro e w5 ⟨rfl, hb5⟩
  clear hsc
  replace hb := hb.trans (hb5.mono hb.size)
  clear hb5
  cases hR1 : rightD n1 (lD l1)
  · clear hR1
    go_wp2
    go_returns
    exact ⟨rfl, hb⟩
  replace hR1 := Lib.hid (show RightD n1 (lD l1) from of_decide_eq_true hR1)
  have hsc := vright_c p2 n2 c2 (lD l2) (by omega) w5 (h2.out.below hb).2
  replace hsc := Lib.hid hsc
  go_wp2_with fail
  refine hsc.out.mono ?_
  rintro e w6 ⟨rfl, hb6⟩
  clear hsc
  replace hb := hb.trans (hb6.mono hb.size)
  clear hb6
  cases hR2 : rightD n2 (lD l2)
  · clear hR2
    go_wp2
    go_returns
    exact ⟨rfl, hb⟩
  replace hR2 := Lib.hid (show RightD n2 (lD l2) from of_decide_eq_true hR2)
  go_wp2_with fail
  refine calls_at (fun w7 hW => ?_)
  have hB : Blk w7 w6.heap.size 22 #[.slice p0 n0 c0, .slice p1 n1 c1] := by rw [hW]; exact Blk.new _ _ _
  have hb7 : Below w6.heap.size w6 w7 := by rw [hW]; exact (Below.refl _ _).alloc (Nat.le_refl _) _
  clear hW
  replace hb := hb.trans (hb7.mono hb.size)
  clear hb7
  refine (join2_c _ _ p0 n0 c0 l0 p1 n1 c1 l1 hn0 hn1 w7 hB (h0.out.below hb) (h1.out.below hb) hR0.out hR1.out).mono ?_
  rintro e w8 ⟨qX, mX, kX, esX, rfl, ho, hRX, hvX, hb8⟩
  have hX := Lib.hid (own_dots ho)
  clear ho hB
  replace hb := hb.trans (hb8.mono hb.size)
  clear hb8
  have hLX : mX ≤ 1000 := Nat.le_trans (right_le8 hRX) (by decide)
  replace hRX := Lib.hid hRX
  replace hvX := Lib.hid hvX
  go_wp2_with fail
  refine calls_at (fun w9 hW => ?_)
  have hB : Blk w9 w8.heap.size 22 #[.slice p1 n1 c1, .slice p2 n2 c2] := by rw [hW]; exact Blk.new _ _ _
  have hb9 : Below w8.heap.size w8 w9 := by rw [hW]; exact (Below.refl _ _).alloc (Nat.le_refl _) _
  clear hW
  replace hb := hb.trans (hb9.mono hb.size)
  replace hX := Lib.hid (hX.out.below hb9)
  clear hb9
  refine (join2_c _ _ p1 n1 c1 l1 p2 n2 c2 l2 hn1 hn2 w9 hB (h1.out.below hb) (h2.out.below hb) hR1.out hR2.out).mono ?_
  rintro e w10 ⟨qY, mY, kY, esY, rfl, ho, hRY, hvY, hb10⟩
  have hY := Lib.hid (own_dots ho)
  clear ho hB
  replace hb := hb.trans (hb10.mono hb.size)
  replace hX := Lib.hid (hX.out.below hb10)
  clear hb10
  have hLY : mY ≤ 1000 := Nat.le_trans (right_le8 hRY) (by decide)
  replace hRY := Lib.hid hRY
  replace hvY := Lib.hid hvY
  go_wp2_with fail
  refine calls_at (fun w11 hW => ?_)
  have hB : Blk w11 w10.heap.size 22 #[.slice p0 n0 c0, .slice p1 n1 c1, .slice p2 n2 c2] := by rw [hW]; exact Blk.new _ _ _
  have hb11 : Below w10.heap.size w10 w11 := by rw [hW]; exact (Below.refl _ _).alloc (Nat.le_refl _) _
  clear hW
  replace hb := hb.trans (hb11.mono hb.size)
  replace hX := Lib.hid (hX.out.below hb11)
  replace hY := Lib.hid (hY.out.below hb11)
  clear hb11
  refine (join3_c _ _ p0 n0 c0 l0 p1 n1 c1 l1 p2 n2 c2 l2 hn0 hn1 hn2 w11 hB (h0.out.below hb) (h1.out.below hb) (h2.out.below hb) hR0.out hR1.out hR2.out).mono ?_
  rintro e w12 ⟨qZ, mZ, kZ, esZ, rfl, ho, hRZ, hvZ, hb12⟩
  have hZ := Lib.hid (own_dots ho)
  clear ho hB
  replace hb := hb.trans (hb12.mono hb.size)
  replace hX := Lib.hid (hX.out.below hb12)
  replace hY := Lib.hid (hY.out.below hb12)
  clear hb12
  have hLZ : mZ ≤ 1000 := Nat.le_trans (right_le8 hRZ) (by decide)
  replace hRZ := Lib.hid hRZ
  replace hvZ := Lib.hid hvZ
  have hsc := vright_c qZ mZ kZ (lD esZ) (by omega) w12 hZ.out.2
  rw [show rightD mZ (lD esZ) = true from decide_eq_true hRZ.out] at hsc
  replace hsc := Lib.hid hsc
  go_wp2_with fail
  refine hsc.out.mono ?_
  rintro e w13 ⟨rfl, hb13⟩
  clear hsc
  replace hb := hb.trans (hb13.mono hb.size)
  replace hX := Lib.hid (hX.out.below hb13)
  replace hY := Lib.hid (hY.out.below hb13)
  replace hZ := Lib.hid (hZ.out.below hb13)
  clear hb13
  go_wp2_with fail
  refine calls_at (fun w14 hW => ?_)
  have hB : Blk w14 w13.heap.size 22 #[.slice p1 n1 c1, .slice p0 n0 c0] := by rw [hW]; exact Blk.new _ _ _
  have hb14 : Below w13.heap.size w13 w14 := by rw [hW]; exact (Below.refl _ _).alloc (Nat.le_refl _) _
  clear hW
  replace hb := hb.trans (hb14.mono hb.size)
  replace hX := Lib.hid (hX.out.below hb14)
  replace hY := Lib.hid (hY.out.below hb14)
  replace hZ := Lib.hid (hZ.out.below hb14)
  clear hb14
  refine (join2_c _ _ p1 n1 c1 l1 p0 n0 c0 l0 hn1 hn0 w14 hB (h1.out.below hb) (h0.out.below hb) hR1.out hR0.out).mono ?_
  rintro e w15 ⟨qU, mU, kU, esU, rfl, ho, hRU, hvU, hb15⟩
  have hU := Lib.hid (own_dots ho)
  clear ho hB
  replace hb := hb.trans (hb15.mono hb.size)
  replace hX := Lib.hid (hX.out.below hb15)
  replace hY := Lib.hid (hY.out.below hb15)
  replace hZ := Lib.hid (hZ.out.below hb15)
  clear hb15
  have hLU : mU ≤ 1000 := Nat.le_trans (right_le8 hRU) (by decide)
  replace hRU := Lib.hid hRU
  replace hvU := Lib.hid hvU
  have hs : eqL esX esU = true := decide_eq_true (eqL_val hX.out.1 hU.out.1 hRX.out hRU.out (fun q => by have e1 := hvX.out q; have e2 := hvU.out q; rw [e1, e2]; exact Int.max_comm _ _)).1
  have hsc := sameDots_c qX qU mX kX mU kU esX esU (by omega) (by omega) w15 hX.out hU.out
  rw [hs] at hsc
  replace hsc := Lib.hid hsc
  clear hs
  go_wp2_with fail
  refine hsc.out.mono ?_
  rintro e w16 ⟨rfl, hb16⟩
  clear hsc
  replace hb := hb.trans (hb16.mono hb.size)
  replace hX := Lib.hid (hX.out.below hb16)
  replace hY := Lib.hid (hY.out.below hb16)
  replace hZ := Lib.hid (hZ.out.below hb16)
  replace hU := Lib.hid (hU.out.below hb16)
  clear hb16
  go_wp2_with fail
  refine calls_at (fun w17 hW => ?_)
  have hB : Blk w17 w16.heap.size 22 #[.slice qX mX kX, .slice p2 n2 c2] := by rw [hW]; exact Blk.new _ _ _
  have hb17 : Below w16.heap.size w16 w17 := by rw [hW]; exact (Below.refl _ _).alloc (Nat.le_refl _) _
  clear hW
  replace hb := hb.trans (hb17.mono hb.size)
  replace hX := Lib.hid (hX.out.below hb17)
  replace hY := Lib.hid (hY.out.below hb17)
  replace hZ := Lib.hid (hZ.out.below hb17)
  replace hU := Lib.hid (hU.out.below hb17)
  clear hb17
  refine (join2_c _ _ qX mX kX esX p2 n2 c2 l2 hLX hn2 w17 hB hX.out (h2.out.below hb) hRX.out hR2.out).mono ?_
  rintro e w18 ⟨qV, mV, kV, esV, rfl, ho, hRV, hvV, hb18⟩
  have hV := Lib.hid (own_dots ho)
  clear ho hB
  replace hb := hb.trans (hb18.mono hb.size)
  replace hX := Lib.hid (hX.out.below hb18)
  replace hY := Lib.hid (hY.out.below hb18)
  replace hZ := Lib.hid (hZ.out.below hb18)
  replace hU := Lib.hid (hU.out.below hb18)
  clear hb18
  have hLV : mV ≤ 1000 := Nat.le_trans (right_le8 hRV) (by decide)
  replace hRV := Lib.hid hRV
  replace hvV := Lib.hid hvV
  have hs : eqL esV esZ = true := decide_eq_true (eqL_val hV.out.1 hZ.out.1 hRV.out hRZ.out (fun q => by have e1 := hvV.out q; have e2 := hvZ.out q; have e3 := hvX.out q; (try simp only at e1 e2 e3); omega)).1
  have hsc := sameDots_c qV qZ mV kV mZ kZ esV esZ (by omega) (by omega) w18 hV.out hZ.out
  rw [hs] at hsc
  replace hsc := Lib.hid hsc
  clear hs
  go_wp2_with fail
  refine hsc.out.mono ?_
  rintro e w19 ⟨rfl, hb19⟩
  clear hsc
  replace hb := hb.trans (hb19.mono hb.size)
  replace hX := Lib.hid (hX.out.below hb19)
  replace hY := Lib.hid (hY.out.below hb19)
  replace hZ := Lib.hid (hZ.out.below hb19)
  replace hU := Lib.hid (hU.out.below hb19)
  replace hV := Lib.hid (hV.out.below hb19)
  clear hb19
  go_wp2_with fail
  refine calls_at (fun w20 hW => ?_)
  have hB : Blk w20 w19.heap.size 22 #[.slice p0 n0 c0, .slice qY mY kY] := by rw [hW]; exact Blk.new _ _ _
  have hb20 : Below w19.heap.size w19 w20 := by rw [hW]; exact (Below.refl _ _).alloc (Nat.le_refl _) _
  clear hW
  replace hb := hb.trans (hb20.mono hb.size)
  replace hX := Lib.hid (hX.out.below hb20)
  replace hY := Lib.hid (hY.out.below hb20)
  replace hZ := Lib.hid (hZ.out.below hb20)
  replace hU := Lib.hid (hU.out.below hb20)
  replace hV := Lib.hid (hV.out.below hb20)
  clear hb20
  refine (join2_c _ _ p0 n0 c0 l0 qY mY kY esY hn0 hLY w20 hB (h0.out.below hb) hY.out hR0.out hRY.out).mono ?_
  rintro e w21 ⟨qP, mP, kP, esP, rfl, ho, hRP, hvP, hb21⟩
  have hP := Lib.hid (own_dots ho)
  clear ho hB
  replace hb := hb.trans (hb21.mono hb.size)
  replace hX := Lib.hid (hX.out.below hb21)
  replace hY := Lib.hid (hY.out.below hb21)
  replace hZ := Lib.hid (hZ.out.below hb21)
  replace hU := Lib.hid (hU.out.below hb21)
  replace hV := Lib.hid (hV.out.below hb21)
  clear hb21
  have hLP : mP ≤ 1000 := Nat.le_trans (right_le8 hRP) (by decide)
  replace hRP := Lib.hid hRP
  replace hvP := Lib.hid hvP
  have hs : eqL esP esZ = true := decide_eq_true (eqL_val hP.out.1 hZ.out.1 hRP.out hRZ.out (fun q => by have e1 := hvP.out q; have e2 := hvZ.out q; have e3 := hvY.out q; (try simp only at e1 e2 e3); omega)).1
  have hsc := sameDots_c qP qZ mP kP mZ kZ esP esZ (by omega) (by omega) w21 hP.out hZ.out
  rw [hs] at hsc
  replace hsc := Lib.hid hsc
  clear hs
  go_wp2_with fail
  refine hsc.out.mono ?_
  rintro e w22 ⟨rfl, hb22⟩
  clear hsc
  replace hb := hb.trans (hb22.mono hb.size)
  replace hX := Lib.hid (hX.out.below hb22)
  replace hY := Lib.hid (hY.out.below hb22)
  replace hZ := Lib.hid (hZ.out.below hb22)
  replace hU := Lib.hid (hU.out.below hb22)
  replace hV := Lib.hid (hV.out.below hb22)
  replace hP := Lib.hid (hP.out.below hb22)
  clear hb22
  go_wp2_with fail
  refine calls_at (fun w23 hW => ?_)
  have hB : Blk w23 w22.heap.size 22 #[.slice p0 n0 c0, .slice p0 n0 c0] := by rw [hW]; exact Blk.new _ _ _
  have hb23 : Below w22.heap.size w22 w23 := by rw [hW]; exact (Below.refl _ _).alloc (Nat.le_refl _) _
  clear hW
  replace hb := hb.trans (hb23.mono hb.size)
  replace hX := Lib.hid (hX.out.below hb23)
  replace hY := Lib.hid (hY.out.below hb23)
  replace hZ := Lib.hid (hZ.out.below hb23)
  replace hU := Lib.hid (hU.out.below hb23)
  replace hV := Lib.hid (hV.out.below hb23)
  replace hP := Lib.hid (hP.out.below hb23)
  clear hb23
  refine (join2_c _ _ p0 n0 c0 l0 p0 n0 c0 l0 hn0 hn0 w23 hB (h0.out.below hb) (h0.out.below hb) hR0.out hR0.out).mono ?_
  rintro e w24 ⟨qQ, mQ, kQ, esQ, rfl, ho, hRQ, hvQ, hb24⟩
  have hQ := Lib.hid (own_dots ho)
  clear ho hB
  replace hb := hb.trans (hb24.mono hb.size)
  replace hX := Lib.hid (hX.out.below hb24)
  replace hY := Lib.hid (hY.out.below hb24)
  replace hZ := Lib.hid (hZ.out.below hb24)
  replace hU := Lib.hid (hU.out.below hb24)
  replace hV := Lib.hid (hV.out.below hb24)
  replace hP := Lib.hid (hP.out.below hb24)
  clear hb24
  have hLQ : mQ ≤ 1000 := Nat.le_trans (right_le8 hRQ) (by decide)
  replace hRQ := Lib.hid hRQ
  replace hvQ := Lib.hid hvQ
  have hs : eqL esQ l0 = true := decide_eq_true (eqL_val hQ.out.1 (h0.out.below hb).1 hRQ.out hR0.out (fun q => by have e1 := hvQ.out q; (try simp only at e1); omega)).1
  have hsc := sameDots_c qQ p0 mQ kQ n0 c0 esQ l0 (by omega) (by omega) w24 hQ.out (h0.out.below hb)
  rw [hs] at hsc
  replace hsc := Lib.hid hsc
  clear hs
  go_wp2_with fail
  refine hsc.out.mono ?_
  rintro e w25 ⟨rfl, hb25⟩
  clear hsc
  replace hb := hb.trans (hb25.mono hb.size)
  replace hX := Lib.hid (hX.out.below hb25)
  replace hY := Lib.hid (hY.out.below hb25)
  replace hZ := Lib.hid (hZ.out.below hb25)
  replace hU := Lib.hid (hU.out.below hb25)
  replace hV := Lib.hid (hV.out.below hb25)
  replace hP := Lib.hid (hP.out.below hb25)
  replace hQ := Lib.hid (hQ.out.below hb25)
  clear hb25
  have hsc := covers_c qZ mZ kZ (lD esZ) p0 n0 c0 (lD l0) (by omega) (by omega) w25 hZ.out.2 (h0.out.below hb).2
  rw [show covB mZ (lD esZ) n0 (lD l0) = true from (covB_val hRZ.out hR0.out).2 (fun q => by have e1 := hvZ.out q; (try simp only at e1); omega)] at hsc
  replace hsc := Lib.hid hsc
  go_wp2_with fail
  refine hsc.out.mono ?_
  rintro e w26 ⟨rfl, hb26⟩
  clear hsc
  replace hb := hb.trans (hb26.mono hb.size)
  replace hX := Lib.hid (hX.out.below hb26)
  replace hY := Lib.hid (hY.out.below hb26)
  replace hZ := Lib.hid (hZ.out.below hb26)
  replace hU := Lib.hid (hU.out.below hb26)
  replace hV := Lib.hid (hV.out.below hb26)
  replace hP := Lib.hid (hP.out.below hb26)
  replace hQ := Lib.hid (hQ.out.below hb26)
  clear hb26
  have hsc := covers_c qZ mZ kZ (lD esZ) p1 n1 c1 (lD l1) (by omega) (by omega) w26 hZ.out.2 (h1.out.below hb).2
  rw [show covB mZ (lD esZ) n1 (lD l1) = true from (covB_val hRZ.out hR1.out).2 (fun q => by have e1 := hvZ.out q; (try simp only at e1); omega)] at hsc
  replace hsc := Lib.hid hsc
  go_wp2_with fail
  refine hsc.out.mono ?_
  rintro e w27 ⟨rfl, hb27⟩
  clear hsc
  replace hb := hb.trans (hb27.mono hb.size)
  replace hX := Lib.hid (hX.out.below hb27)
  replace hY := Lib.hid (hY.out.below hb27)
  replace hZ := Lib.hid (hZ.out.below hb27)
  replace hU := Lib.hid (hU.out.below hb27)
  replace hV := Lib.hid (hV.out.below hb27)
  replace hP := Lib.hid (hP.out.below hb27)
  replace hQ := Lib.hid (hQ.out.below hb27)
  clear hb27
  have hsc := covers_c qZ mZ kZ (lD esZ) p2 n2 c2 (lD l2) (by omega) (by omega) w27 hZ.out.2 (h2.out.below hb).2
  rw [show covB mZ (lD esZ) n2 (lD l2) = true from (covB_val hRZ.out hR2.out).2 (fun q => by have e1 := hvZ.out q; (try simp only at e1); omega)] at hsc
  replace hsc := Lib.hid hsc
  go_wp2_with fail
  refine hsc.out.mono ?_
  rintro e w28 ⟨rfl, hb28⟩
  clear hsc
  replace hb := hb.trans (hb28.mono hb.size)
  replace hX := Lib.hid (hX.out.below hb28)
  replace hY := Lib.hid (hY.out.below hb28)
  replace hZ := Lib.hid (hZ.out.below hb28)
  replace hU := Lib.hid (hU.out.below hb28)
  replace hV := Lib.hid (hV.out.below hb28)
  replace hP := Lib.hid (hP.out.below hb28)
  replace hQ := Lib.hid (hQ.out.below hb28)
  clear hb28
  obtain ⟨b1, hb1e⟩ : ∃ b, covB n2 (lD l2) n0 (lD l0) = b := ⟨_, rfl⟩
  obtain ⟨b2, hb2e⟩ : ∃ b, covB n2 (lD l2) n1 (lD l1) = b := ⟨_, rfl⟩
  have hb3e : b1 = true → b2 = true → covB n2 (lD l2) mX (lD esX) = true := fun h1 h2 => (covB_val hR2.out hRX.out).2 (fun q => by
    have e1 := hvX.out q
    have e2 := (covB_val hR2.out hR0.out).1 (hb1e.trans h1) q
    have e3 := (covB_val hR2.out hR1.out).1 (hb2e.trans h2) q
    try simp only at e1
    omega)
  replace hb1e := Lib.hid hb1e
  replace hb2e := Lib.hid hb2e
  replace hb3e := Lib.hid hb3e
  have hxs : covB n0 (lD l0) n1 (lD l1) = eqL esX l0 := bool_ext (by
    rw [covB_val hR0.out hR1.out, eqL_iff hX.out.1 h0.out.1 hRX.out hR0.out]
    exact ⟨fun h q => by have e1 := hvX.out q; have := h q; (try simp only at e1); omega, fun h q => by have e1 := hvX.out q; have := h q; (try simp only at e1); omega⟩)
  have hys : (covB n0 (lD l0) n1 (lD l1) && covB n1 (lD l1) n0 (lD l0)) = eqL l0 l1 := bool_ext (by
    rw [Bool.and_eq_true, covB_val hR0.out hR1.out, covB_val hR1.out hR0.out, eqL_iff h0.out.1 h1.out.1 hR0.out hR1.out]
    exact ⟨fun h q => Int.le_antisymm (h.2 q) (h.1 q), fun h => ⟨fun q => Int.le_of_eq (h q).symm, fun q => Int.le_of_eq (h q)⟩⟩)
  obtain ⟨b4, hb4e⟩ : ∃ b, covB n0 (lD l0) n1 (lD l1) = b := ⟨_, rfl⟩
  obtain ⟨b5, hb5e⟩ : ∃ b, covB n1 (lD l1) n0 (lD l0) = b := ⟨_, rfl⟩
  rw [hb4e] at hxs hys
  rw [hb5e] at hys
  replace hxs := Lib.hid hxs
  replace hys := Lib.hid hys
  replace hb4e := Lib.hid hb4e
  replace hb5e := Lib.hid hb5e
  have hca := fun w' hb => covers_c p2 n2 c2 (lD l2) p0 n0 c0 (lD l0) (by omega) (by omega) w' ((h2.out.2).below (w := w) (w' := w') hb) ((h0.out.2).below hb)
  have hcb := fun w' hb => covers_c p2 n2 c2 (lD l2) p1 n1 c1 (lD l1) (by omega) (by omega) w' ((h2.out.2).below (w := w) (w' := w') hb) ((h1.out.2).below hb)
  rw [hb1e.out] at hca
  rw [hb2e.out] at hcb
  replace hca := Lib.hid hca
  replace hcb := Lib.hid hcb
  go_wp2_with fail
  refine (hca.out _ hb).mono ?_
  rintro e w29 ⟨rfl, hb29⟩
  clear hca
  replace hb := hb.trans (hb29.mono hb.size)
  replace hX := Lib.hid (hX.out.below hb29)
  clear hb29
  cases b1
  · skip
    have hd1 := covers_c p0 n0 c0 (lD l0) p1 n1 c1 (lD l1) (by omega) (by omega) w29 (h0.out.below hb).2 (h1.out.below hb).2
    rw [hb4e.out] at hd1
    replace hd1 := Lib.hid hd1
    go_wp2_with fail
    refine hd1.out.mono ?_
    rintro e w30 ⟨rfl, hb30⟩
    clear hd1
    replace hb := hb.trans (hb30.mono hb.size)
    replace hX := Lib.hid (hX.out.below hb30)
    clear hb30
    have hd1 := sameDots_c qX p0 mX kX n0 c0 esX l0 (by omega) (by omega) w30 hX.out (h0.out.below hb)
    rw [← hxs.out] at hd1
    replace hd1 := Lib.hid hd1
    go_wp2_with fail
    refine hd1.out.mono ?_
    rintro e w31 ⟨rfl, hb31⟩
    clear hd1
    replace hb := hb.trans (hb31.mono hb.size)
    replace hX := Lib.hid (hX.out.below hb31)
    clear hb31
    have hd1 := covers_c p0 n0 c0 (lD l0) p1 n1 c1 (lD l1) (by omega) (by omega) w31 (h0.out.below hb).2 (h1.out.below hb).2
    rw [hb4e.out] at hd1
    replace hd1 := Lib.hid hd1
    have hd2 := fun w' hb => covers_c p1 n1 c1 (lD l1) p0 n0 c0 (lD l0) (by omega) (by omega) w' ((h1.out.2).below (w := w) (w' := w') hb) ((h0.out.2).below hb)
    rw [hb5e.out] at hd2
    replace hd2 := Lib.hid hd2
    have hd3 := fun w' hb => sameDots_c p0 p1 n0 c0 n1 c1 l0 l1 (by omega) (by omega) w' (h0.out.below (w := w) (w' := w') hb) (h1.out.below hb)
    rw [← hys.out] at hd3
    replace hd3 := Lib.hid hd3
    clear hxs hys hb4e hb5e hvX hRX hX
    have hq : (b4 == b4) = true := beq_self_eq_true _
    go_wp2_with fail
    refine hd1.out.mono ?_
    rintro e w32 ⟨rfl, hb32⟩
    clear hd1
    replace hb := hb.trans (hb32.mono hb.size)
    clear hb32
    cases b4
    · skip
      go_wp2_with fail
      refine (hd3.out _ hb).mono ?_
      rintro e w91 ⟨rfl, hb91⟩
      clear hd3
      replace hb := hb.trans (hb91.mono hb.size)
      clear hb91
      go_wp2
      go_returns
      exact ⟨rfl, hb⟩
    · skip
      go_wp2_with fail
      refine (hd2.out _ hb).mono ?_
      rintro e w90 ⟨rfl, hb90⟩
      clear hd2
      replace hb := hb.trans (hb90.mono hb.size)
      clear hb90
      cases b5 <;> skip
      all_goals
        go_wp2_with fail
        refine (hd3.out _ hb).mono ?_
        rintro e w91 ⟨rfl, hb91⟩
        clear hd3
        replace hb := hb.trans (hb91.mono hb.size)
        clear hb91
        go_wp2
        go_returns
        exact ⟨rfl, hb⟩
  go_wp2_with fail
  refine (hcb.out _ hb).mono ?_
  rintro e w33 ⟨rfl, hb33⟩
  clear hcb
  replace hb := hb.trans (hb33.mono hb.size)
  replace hX := Lib.hid (hX.out.below hb33)
  clear hb33
  cases b2
  · skip
    have hd1 := covers_c p0 n0 c0 (lD l0) p1 n1 c1 (lD l1) (by omega) (by omega) w33 (h0.out.below hb).2 (h1.out.below hb).2
    rw [hb4e.out] at hd1
    replace hd1 := Lib.hid hd1
    go_wp2_with fail
    refine hd1.out.mono ?_
    rintro e w34 ⟨rfl, hb34⟩
    clear hd1
    replace hb := hb.trans (hb34.mono hb.size)
    replace hX := Lib.hid (hX.out.below hb34)
    clear hb34
    have hd1 := sameDots_c qX p0 mX kX n0 c0 esX l0 (by omega) (by omega) w34 hX.out (h0.out.below hb)
    rw [← hxs.out] at hd1
    replace hd1 := Lib.hid hd1
    go_wp2_with fail
    refine hd1.out.mono ?_
    rintro e w35 ⟨rfl, hb35⟩
    clear hd1
    replace hb := hb.trans (hb35.mono hb.size)
    replace hX := Lib.hid (hX.out.below hb35)
    clear hb35
    have hd1 := covers_c p0 n0 c0 (lD l0) p1 n1 c1 (lD l1) (by omega) (by omega) w35 (h0.out.below hb).2 (h1.out.below hb).2
    rw [hb4e.out] at hd1
    replace hd1 := Lib.hid hd1
    have hd2 := fun w' hb => covers_c p1 n1 c1 (lD l1) p0 n0 c0 (lD l0) (by omega) (by omega) w' ((h1.out.2).below (w := w) (w' := w') hb) ((h0.out.2).below hb)
    rw [hb5e.out] at hd2
    replace hd2 := Lib.hid hd2
    have hd3 := fun w' hb => sameDots_c p0 p1 n0 c0 n1 c1 l0 l1 (by omega) (by omega) w' (h0.out.below (w := w) (w' := w') hb) (h1.out.below hb)
    rw [← hys.out] at hd3
    replace hd3 := Lib.hid hd3
    clear hxs hys hb4e hb5e hvX hRX hX
    have hq : (b4 == b4) = true := beq_self_eq_true _
    go_wp2_with fail
    refine hd1.out.mono ?_
    rintro e w36 ⟨rfl, hb36⟩
    clear hd1
    replace hb := hb.trans (hb36.mono hb.size)
    clear hb36
    cases b4
    · skip
      go_wp2_with fail
      refine (hd3.out _ hb).mono ?_
      rintro e w91 ⟨rfl, hb91⟩
      clear hd3
      replace hb := hb.trans (hb91.mono hb.size)
      clear hb91
      go_wp2
      go_returns
      exact ⟨rfl, hb⟩
    · skip
      go_wp2_with fail
      refine (hd2.out _ hb).mono ?_
      rintro e w90 ⟨rfl, hb90⟩
      clear hd2
      replace hb := hb.trans (hb90.mono hb.size)
      clear hb90
      cases b5 <;> skip
      all_goals
        go_wp2_with fail
        refine (hd3.out _ hb).mono ?_
        rintro e w91 ⟨rfl, hb91⟩
        clear hd3
        replace hb := hb.trans (hb91.mono hb.size)
        clear hb91
        go_wp2
        go_returns
        exact ⟨rfl, hb⟩
  have hsc := covers_c p2 n2 c2 (lD l2) qX mX kX (lD esX) (by omega) (by omega) w33 (h2.out.below hb).2 hX.out.2
  rw [show covB n2 (lD l2) mX (lD esX) = true from hb3e.out (by trivial) (by trivial)] at hsc
  replace hsc := Lib.hid hsc
  go_wp2_with fail
  refine hsc.out.mono ?_
  rintro e w37 ⟨rfl, hb37⟩
  clear hsc
  replace hb := hb.trans (hb37.mono hb.size)
  replace hX := Lib.hid (hX.out.below hb37)
  clear hb37
  have hd1 := covers_c p0 n0 c0 (lD l0) p1 n1 c1 (lD l1) (by omega) (by omega) w37 (h0.out.below hb).2 (h1.out.below hb).2
  rw [hb4e.out] at hd1
  replace hd1 := Lib.hid hd1
  go_wp2_with fail
  refine hd1.out.mono ?_
  rintro e w38 ⟨rfl, hb38⟩
  clear hd1
  replace hb := hb.trans (hb38.mono hb.size)
  replace hX := Lib.hid (hX.out.below hb38)
  clear hb38
  have hd1 := sameDots_c qX p0 mX kX n0 c0 esX l0 (by omega) (by omega) w38 hX.out (h0.out.below hb)
  rw [← hxs.out] at hd1
  replace hd1 := Lib.hid hd1
  go_wp2_with fail
  refine hd1.out.mono ?_
  rintro e w39 ⟨rfl, hb39⟩
  clear hd1
  replace hb := hb.trans (hb39.mono hb.size)
  replace hX := Lib.hid (hX.out.below hb39)
  clear hb39
  have hd1 := covers_c p0 n0 c0 (lD l0) p1 n1 c1 (lD l1) (by omega) (by omega) w39 (h0.out.below hb).2 (h1.out.below hb).2
  rw [hb4e.out] at hd1
  replace hd1 := Lib.hid hd1
  have hd2 := fun w' hb => covers_c p1 n1 c1 (lD l1) p0 n0 c0 (lD l0) (by omega) (by omega) w' ((h1.out.2).below (w := w) (w' := w') hb) ((h0.out.2).below hb)
  rw [hb5e.out] at hd2
  replace hd2 := Lib.hid hd2
  have hd3 := fun w' hb => sameDots_c p0 p1 n0 c0 n1 c1 l0 l1 (by omega) (by omega) w' (h0.out.below (w := w) (w' := w') hb) (h1.out.below hb)
  rw [← hys.out] at hd3
  replace hd3 := Lib.hid hd3
  clear hxs hys hb4e hb5e hvX hRX hX
  have hq : (b4 == b4) = true := beq_self_eq_true _
  go_wp2_with fail
  refine hd1.out.mono ?_
  rintro e w40 ⟨rfl, hb40⟩
  clear hd1
  replace hb := hb.trans (hb40.mono hb.size)
  clear hb40
  cases b4
  · skip
    go_wp2_with fail
    refine (hd3.out _ hb).mono ?_
    rintro e w91 ⟨rfl, hb91⟩
    clear hd3
    replace hb := hb.trans (hb91.mono hb.size)
    clear hb91
    go_wp2
    go_returns
    exact ⟨rfl, hb⟩
  · skip
    go_wp2_with fail
    refine (hd2.out _ hb).mono ?_
    rintro e w90 ⟨rfl, hb90⟩
    clear hd2
    replace hb := hb.trans (hb90.mono hb.size)
    clear hb90
    cases b5 <;> skip
    all_goals
      go_wp2_with fail
      refine (hd3.out _ hb).mono ?_
      rintro e w91 ⟨rfl, hb91⟩
      clear hd3
      replace hb := hb.trans (hb91.mono hb.size)
      clear hb91
      go_wp2
      go_returns
      exact ⟨rfl, hb⟩
end Go.Proofs.Ytofgkfdfondajaa
