/- wire: Bytes; evidence: Put; the bytes of evidence. evidence: Of of any two that were signed; SameEvidence of equals; Check of too few keys; Pick. law16: rows of keys. wire: a reader's Bytes and Done. evidence: Get of what was put. -/
import Derived.Test.YtgjffaoggjlamaaGreatDoorOd
import Derived.Deep.RegionHeld3
namespace Go.Proofs.YtgjffaoggjlamaaGreatDoor
open Go Go.RowKit
/-- bytes, how many they are ahead -/
def byI (n : Nat) (b : Nat → Int) : Nat → Int := Sh.catI [(8, nb (n : Int)), (n, b)]
theorem byI_lo (n : Nat) (b : Nat → Int) (j : Nat) (h : j < 8) : byI n b j = nb (n : Int) j := by
  unfold byI Sh.catI
  rw [if_pos h]
theorem byI_hi (n : Nat) (b : Nat → Int) (j : Nat) (h : j < n) : byI n b (8 + j) = b j := by
  unfold byI Sh.catI Sh.catI
  rw [if_neg (by show ¬ 8 + j < 8; omega), show 8 + j - 8 = j by omega, if_pos h]
theorem byI_byt {n : Nat} {b : Nat → Int} (h : Sc.Byt b) : Sc.Byt (byI n b) := Sh.catI_r [(8, nb (n : Int)), (n, b)] ⟨fun j _ => nb_r _ j, fun j _ => h j, trivial⟩
theorem byI_num {n : Nat} (hn : n ≤ 1000000) {b c : Nat → Int} (h : ∀ j, j < 8 → c j = byI n b j) : intv c = (n : Int) := intv_nb (by omega) (by omega) (fun j hj => (h j hj).trans (byI_lo n b j hj))
/-- evidence's bytes -/
def evI (r s q : Int) (S1 G1 S2 G2 : Nat → Int) : Nat → Int := Sh.catI [(161, byI 153 (rpI r s q S1 G1)), (161, byI 153 (rpI r s q S2 G2))]
theorem evI_1 (r s q : Int) (S1 G1 S2 G2 : Nat → Int) (j : Nat) (h : j < 161) : evI r s q S1 G1 S2 G2 j = byI 153 (rpI r s q S1 G1) j := by
  unfold evI Sh.catI
  rw [if_pos h]
theorem evI_2 (r s q : Int) (S1 G1 S2 G2 : Nat → Int) (j : Nat) (h : j < 161) : evI r s q S1 G1 S2 G2 (161 + j) = byI 153 (rpI r s q S2 G2) j := by
  unfold evI Sh.catI Sh.catI
  rw [if_neg (by show ¬ 161 + j < 161; omega), show 161 + j - 161 = j by omega, if_pos h]
theorem evI_byt (r s q : Int) {S1 G1 S2 G2 : Nat → Int} (h1 : Sc.Byt S1) (h2 : Sc.Byt G1) (h3 : Sc.Byt S2) (h4 : Sc.Byt G2) : Sc.Byt (evI r s q S1 G1 S2 G2) := Sh.catI_r [(161, byI 153 (rpI r s q S1 G1)), (161, byI 153 (rpI r s q S2 G2))] ⟨fun j _ => byI_byt (rp_byt h1 h2) j, fun j _ => byI_byt (rp_byt h3 h4) j, trivial⟩
set_option maxRecDepth 20000 in
set_option maxHeartbeats 4000000 in
theorem wbytes_c (g n c : Nat) (b : Nat → Int) (hn : n ≤ 1000000) (w : World) (hR : RowB w g n c b) : Calls Tryz.prog 101 #[.slice (some ⟨g, 0, none⟩) n c] w (PostBs (8 + n) (byI n b) w) := by
  have hnum := Lib.hid (fun w1 => wnum_c (n : Int) (by omega) (by omega) w1)
  have hj := Lib.hid (fun g8 c8 gP W (k8 : RowB W g8 8 c8 (nb (n : Int))) (kR : RowB W g n c b) (hP : Blk W gP 26 #[.slice (some ⟨g8, 0, none⟩) 8 c8, .slice (some ⟨g, 0, none⟩) n c]) => show Calls Tryz.prog 83 #[.slice (some ⟨gP, 0, none⟩) 2 2] W (PostBs (8 + n) (byI n b) W) from wjoin_c gP 2 [.slice (some ⟨g8, 0, none⟩) 8 c8, .slice (some ⟨g, 0, none⟩) n c] [(8, nb (n : Int)), (n, b)] W hP.lt (fun j u hu => by rw [Nat.zero_add, hP.cell j]; simpa using hu) ⟨k8.pv, kR.pv, trivial⟩ (by show 0 < 8 + (n + 0); omega) (by show 8 + (n + 0) ≤ 10000000; omega) (by show 2 ≤ 1000000; decide))
  obtain ⟨N8, hN8⟩ : ∃ N, N = nb (n : Int) := ⟨_, rfl⟩
  obtain ⟨TX, hTX⟩ : ∃ N, N = byI n b := ⟨_, rfl⟩
  rw [← hN8] at hnum hj
  rw [← hTX] at hj ⊢
  clear hN8 hTX
  replace hR := Lib.hid hR
  go_enter Tryz.func101, Tryz.ntmps101
  go_wp2_with fail
  refine (hnum.out w).mono ?_
  rintro e w2 ⟨g8, c8, rfl, hg8, k8, hb⟩
  have kR := hR.out.below hb
  have hs := hb.size
  clear hnum hR
  go_wp2_with fail
  refine calls_at (fun W hW => ?_)
  have hbW : Below w2.heap.size w2 W := by rw [hW]; go_grown
  have kP : Blk W w2.heap.size 26 #[.slice (some ⟨g8, 0, none⟩) 8 c8, .slice (some ⟨g, 0, none⟩) n c] := by rw [hW]; exact Blk.new _ _ _
  clear hW
  refine (hj.out g8 c8 w2.heap.size W (k8.below hbW) (kR.below hbW) kP).mono ?_
  rintro e w3 ⟨g9, c9, rfl, hg9, k9, hb9⟩
  have hP := Lib.hid (show PostBs (8 + n) TX w (.returned (.slice (some ⟨g9, 0, none⟩) (8 + n) c9)) w3 from ⟨g9, c9, rfl, by have := hbW.size; omega, k9, hb.trans ((hbW.trans (hb9.mono hbW.size)).mono hs)⟩)
  clear k9 hb9 kP hbW kR k8 hb hj hg9 hg8
  go_wp2_with fail
  go_returns
  exact hP.out
set_option maxRecDepth 20000 in
set_option maxHeartbeats 4000000 in
theorem ePut_c (r s q : Int) (hyes : shT r s q 64 = true) (a1 b1 a2 b2 a3 b3 a4 b4 : Nat) (S1 G1 S2 G2 : Nat → Int) (hO : ordI r s q 64 64 S1 r s q 64 64 S2 < 0) (w : World) (k1 : RowB w a1 64 b1 S1) (k2 : RowB w a2 64 b2 G1) (k3 : RowB w a3 64 b3 S2) (k4 : RowB w a4 64 b4 G2) :
    Calls Tryz.prog 40 #[.agg #[.int .i64 r, .int .i64 s, .int .i64 q, .slice (some ⟨a1, 0, none⟩) 64 b1, .slice (some ⟨a2, 0, none⟩) 64 b2, .int .i64 r, .int .i64 s, .int .i64 q, .slice (some ⟨a3, 0, none⟩) 64 b3, .slice (some ⟨a4, 0, none⟩) 64 b4]] w (PostB0 322 (evI r s q S1 G1 S2 G2) w) := by
  have hrt := fun w1 (hb : Below w.heap.size w w1) => eRight_c r s q (some ⟨a1, 0, none⟩) 64 b1 (some ⟨a2, 0, none⟩) 64 b2 r s q (some ⟨a3, 0, none⟩) 64 b3 (some ⟨a4, 0, none⟩) 64 b4 S1 S2 w1 (k1.below hb).bx (k3.below hb).bx
  rw [decide_eq_true hO] at hrt
  replace hrt := Lib.hid hrt
  have hp1 := Lib.hid (fun w1 (hb : Below w.heap.size w w1) => Put_ok r s q (some ⟨a1, 0, none⟩) b1 (some ⟨a2, 0, none⟩) b2 S1 G1 hyes k1.cap k2.cap w1 (k1.below hb).bx (k2.below hb).bx)
  have hp2 := Lib.hid (fun w1 (hb : Below w.heap.size w w1) => Put_ok r s q (some ⟨a3, 0, none⟩) b3 (some ⟨a4, 0, none⟩) b4 S2 G2 hyes k3.cap k4.cap w1 (k3.below hb).bx (k4.below hb).bx)
  have hj := Lib.hid (fun g1 c1 g2 c2 gP W (x1 : RowB W g1 161 c1 (byI 153 (rpI r s q S1 G1))) (x2 : RowB W g2 161 c2 (byI 153 (rpI r s q S2 G2))) (hP : Blk W gP 26 #[.slice (some ⟨g1, 0, none⟩) 161 c1, .slice (some ⟨g2, 0, none⟩) 161 c2]) => show Calls Tryz.prog 83 #[.slice (some ⟨gP, 0, none⟩) 2 2] W (PostBs 322 (evI r s q S1 G1 S2 G2) W) from wjoin_c gP 2 [.slice (some ⟨g1, 0, none⟩) 161 c1, .slice (some ⟨g2, 0, none⟩) 161 c2] [(161, byI 153 (rpI r s q S1 G1)), (161, byI 153 (rpI r s q S2 G2))] W hP.lt (fun j u hu => by rw [Nat.zero_add, hP.cell j]; simpa using hu) ⟨x1.pv, x2.pv, trivial⟩ (by show 0 < 161 + (161 + 0); decide) (by show 161 + (161 + 0) ≤ 10000000; decide) (by show 2 ≤ 1000000; decide))
  obtain ⟨TX, hTX⟩ : ∃ N, N = evI r s q S1 G1 S2 G2 := ⟨_, rfl⟩
  obtain ⟨P1, hP1⟩ : ∃ N, N = rpI r s q S1 G1 := ⟨_, rfl⟩
  obtain ⟨P2, hP2⟩ : ∃ N, N = rpI r s q S2 G2 := ⟨_, rfl⟩
  rw [← hTX] at hj ⊢
  rw [← hP1] at hp1 hj
  rw [← hP2] at hp2 hj
  have hby := Lib.hid (fun g c P w1 (k : RowB w1 g 153 c P) => show Calls Tryz.prog 101 #[.slice (some ⟨g, 0, none⟩) 153 c] w1 (PostBs 161 (byI 153 P) w1) from wbytes_c g 153 c P (by decide) w1 k)
  clear hTX hP1 hP2 hyes hO k1 k2 k3 k4
  go_enter Tryz.func40, Tryz.ntmps40
  go_wp2_with fail
  refine calls_at (fun W0 hW => ?_)
  have hb0 : Below w.heap.size w W0 := by rw [hW]; go_grown
  obtain ⟨gE, hgE⟩ : ∃ g, g = w.heap.size := ⟨_, rfl⟩
  have kE : Blk W0 gE 36 #[.int .i64 r, .int .i64 s, .int .i64 q, .slice (some ⟨a1, 0, none⟩) 64 b1, .slice (some ⟨a2, 0, none⟩) 64 b2, .int .i64 r, .int .i64 s, .int .i64 q, .slice (some ⟨a3, 0, none⟩) 64 b3, .slice (some ⟨a4, 0, none⟩) 64 b4] := by rw [hW, hgE]; exact Blk.new _ _ _
  rw [← hgE]
  clear hW hgE
  refine (hrt.out W0 hb0).mono ?_
  rintro e w1 ⟨rfl, hb⟩
  replace hb0 := hb0.trans (hb.mono hb0.size)
  replace kE := kE.below hb
  clear hb hrt
  obtain ⟨⟨y0, y1, y2, y3, y4⟩, y5, y6, y7, y8, y9⟩ := blk10v kE
  go_wp2_with fail
  refine (hp1.out w1 hb0).mono ?_
  rintro e w2 ⟨g1, c1, rfl, _, x1, hb⟩
  replace hb0 := hb0.trans (hb.mono hb0.size)
  replace kE := kE.below hb
  clear hb hp1 y0 y1 y2 y3 y4 y5 y6 y7 y8 y9
  obtain ⟨⟨y0, y1, y2, y3, y4⟩, y5, y6, y7, y8, y9⟩ := blk10v kE
  go_wp2_with fail
  refine (hp2.out w2 hb0).mono ?_
  rintro e w3 ⟨g2, c2, rfl, _, x2, hb⟩
  replace hb0 := hb0.trans (hb.mono hb0.size)
  replace x1 := x1.below hb
  clear hb hp2 y0 y1 y2 y3 y4 y5 y6 y7 y8 y9 kE
  go_wp2_with fail
  refine (hby.out g1 c1 P1 w3 x1).mono ?_
  rintro e w4 ⟨g3, c3, rfl, _, x3, hb⟩
  replace hb0 := hb0.trans (hb.mono hb0.size)
  replace x2 := x2.below hb
  clear hb x1
  go_wp2_with fail
  refine (hby.out g2 c2 P2 w4 x2).mono ?_
  rintro e w5 ⟨g4, c4, rfl, _, x4, hb⟩
  replace hb0 := hb0.trans (hb.mono hb0.size)
  replace x3 := x3.below hb
  clear hb x2 hby
  go_wp2_with fail
  refine calls_at (fun W hW => ?_)
  have hbW : Below w5.heap.size w5 W := by rw [hW]; go_grown
  have kP : Blk W w5.heap.size 26 #[.slice (some ⟨g3, 0, none⟩) 161 c3, .slice (some ⟨g4, 0, none⟩) 161 c4] := by rw [hW]; exact Blk.new _ _ _
  clear hW
  refine (hj.out g3 c3 g4 c4 w5.heap.size W (x3.below hbW) (x4.below hbW) kP).mono ?_
  rintro e w6 ⟨g9, c9, rfl, hg9, k9, hb9⟩
  have hP := Lib.hid (show PostB0 322 TX w (.returned (.tuple #[.slice (some ⟨g9, 0, none⟩) 322 c9, .int .i64 0])) w6 from ⟨g9, c9, rfl, by have := hbW.size; have := hb0.size; omega, k9, hb0.trans ((hbW.trans (hb9.mono hbW.size)).mono hb0.size)⟩)
  clear k9 hb9 kP hbW x3 x4 hb0 hj hg9
  go_wp2_with fail
  go_returns
  exact hP.out
end Go.Proofs.YtgjffaoggjlamaaGreatDoor

namespace Go.Proofs.YtgjffaoggjlamaaGreatDoor
open Go Go.RowKit
/-- the signature of what a replica says -/
def gI (r s q : Int) (S : Nat → Int) : Nat → Int := Sh.sigI (sdI r) [(89, txI r s q S)]
theorem gI_byt (r s q : Int) (S : Nat → Int) : Sc.Byt (gI r s q S) := sig_byt _ _
def fE (E : Bool) (r : Int) : Int := bif E then r else 0
def nE (E : Bool) : Nat := bif E then 64 else 0
def cE (E : Bool) : Int := bif E then 0 else 4
/-- the first and the second of two sums -/
def T1 (A B : Nat → Int) : Nat → Int := if cmpI 64 A 64 B < 0 then A else B
def T2 (A B : Nat → Int) : Nat → Int := if cmpI 64 A 64 B < 0 then B else A
theorem T1_byt {A B : Nat → Int} (h1 : Sc.Byt A) (h2 : Sc.Byt B) : Sc.Byt (T1 A B) := by unfold T1; split <;> assumption
theorem T2_byt {A B : Nat → Int} (h1 : Sc.Byt A) (h2 : Sc.Byt B) : Sc.Byt (T2 A B) := by unfold T2; split <;> assumption
theorem ord_eq {r s q : Int} (h : shT r s q 64 = true) (S1 S2 : Nat → Int) : ordI r s q 64 64 S1 r s q 64 64 S2 = cmpI 64 S1 64 S2 := by
  unfold ordI
  rw [if_pos (by simp [h])]
theorem T_ord {r s q : Int} (h : shT r s q 64 = true) {A B : Nat → Int} (hn : cmpI 64 A 64 B ≠ 0) : ordI r s q 64 64 (T1 A B) r s q 64 64 (T2 A B) < 0 := by
  rw [ord_eq h]
  unfold T1 T2
  rcases cmpI_three 64 A 64 B with k | k | k
  · rw [if_pos (by omega), if_pos (by omega), k]; decide
  · exact absurd k hn
  · rw [if_neg (by omega), if_neg (by omega), cmpI_neg 64 A 64 B, k]; decide
/-- are two sums unlike? -/
def dfI (A B : Nat → Int) : Bool := decide (cmpI 64 A 64 B ≠ 0)
theorem dfI_eq {A B : Nat → Int} (h1 : Sc.Byt A) (h2 : Sc.Byt B) : eqB 64 A 64 B = !dfI A B := by
  rw [Bool.eq_iff_iff]
  unfold eqB dfI
  simp only [decide_eq_true_eq, Bool.not_eq_true', decide_eq_false_iff_not, ne_eq, Decidable.not_not]
  constructor
  · intro h
    rw [cmpI_congr (b := B) (b' := B) (fun j hj => h.2 j hj) (fun _ _ => rfl)]
    exact cmpI_self _ _
  · intro h
    exact ⟨by trivial, fun j hj => cmpI_zero 64 A B h1 h2 h j hj⟩
/-- where there is evidence, its rows are these -/
def EvO (E : Bool) (r s q : Int) (U V : Nat → Int) (p1 : Option Addr) (b1 : Nat) (p2 : Option Addr) (b2 : Nat) (p3 : Option Addr) (b3 : Nat) (p4 : Option Addr) (b4 : Nat) (w' : World) : Prop := E = true → ∃ a1 a2 a3 a4, p1 = some ⟨a1, 0, none⟩ ∧ p2 = some ⟨a2, 0, none⟩ ∧ p3 = some ⟨a3, 0, none⟩ ∧ p4 = some ⟨a4, 0, none⟩ ∧ RowB w' a1 64 b1 U ∧ RowB w' a2 64 b2 (gI r s q U) ∧ RowB w' a3 64 b3 V ∧ RowB w' a4 64 b4 (gI r s q V)
theorem EvO.below {E : Bool} {r s q : Int} {U V : Nat → Int} {p1 : Option Addr} {b1 : Nat} {p2 : Option Addr} {b2 : Nat} {p3 : Option Addr} {b3 : Nat} {p4 : Option Addr} {b4 : Nat} {w w' : World} (h : EvO E r s q U V p1 b1 p2 b2 p3 b3 p4 b4 w) (hb : Below w.heap.size w w') : EvO E r s q U V p1 b1 p2 b2 p3 b3 p4 b4 w' := fun e => by
  obtain ⟨a1, a2, a3, a4, e1, e2, e3, e4, k1, k2, k3, k4⟩ := h e
  exact ⟨a1, a2, a3, a4, e1, e2, e3, e4, k1.below hb, k2.below hb, k3.below hb, k4.below hb⟩
theorem EvO.bat {E : Bool} {r s q : Int} {U V : Nat → Int} {p1 : Option Addr} {b1 : Nat} {p2 : Option Addr} {b2 : Nat} {p3 : Option Addr} {b3 : Nat} {p4 : Option Addr} {b4 : Nat} {w : World} (h : EvO E r s q U V p1 b1 p2 b2 p3 b3 p4 b4 w) : BAt w p1 (nE E) U ∧ BAt w p2 (nE E) (gI r s q U) ∧ BAt w p3 (nE E) V ∧ BAt w p4 (nE E) (gI r s q V) := by
  cases E with
  | false => exact ⟨fun h => absurd h (by decide), fun h => absurd h (by decide), fun h => absurd h (by decide), fun h => absurd h (by decide)⟩
  | true =>
    obtain ⟨a1, a2, a3, a4, rfl, rfl, rfl, rfl, k1, k2, k3, k4⟩ := h rfl
    exact ⟨k1.bat (Nat.le_refl 64), k2.bat (Nat.le_refl 64), k3.bat (Nat.le_refl 64), k4.bat (Nat.le_refl 64)⟩
/-- the evidence of two roots, and the error -/
def PostEa (E : Bool) (r s q : Int) (U V : Nat → Int) (w : World) (e : Ending) (w' : World) : Prop := ∃ p1 b1 p2 b2 p3 b3 p4 b4, e = .returned (.tuple #[.agg #[.int .i64 (fE E r), .int .i64 (fE E s), .int .i64 (fE E q), .slice p1 (nE E) b1, .slice p2 (nE E) b2, .int .i64 (fE E r), .int .i64 (fE E s), .int .i64 (fE E q), .slice p3 (nE E) b3, .slice p4 (nE E) b4], .int .i64 (cE E)]) ∧ EvO E r s q U V p1 b1 p2 b2 p3 b3 p4 b4 w' ∧ Below w.heap.size w w'
theorem PostEv.ea {r s q : Int} {U V : Nat → Int} {w w' : World} {e : Ending} (h : PostEv r s q U (gI r s q U) V (gI r s q V) w e w') : PostEa true r s q U V w e w' := by
  obtain ⟨a1, b1, a2, b2, a3, b3, a4, b4, he, k1, k2, k3, k4, hb⟩ := h
  exact ⟨_, _, _, _, _, _, _, _, he, fun _ => ⟨a1, a2, a3, a4, rfl, rfl, rfl, rfl, k1, k2, k3, k4⟩, hb⟩
theorem PostEa.no {r s q : Int} {U V : Nat → Int} {w w' : World} {e : Ending} (h : PostV (.tuple #[.agg eZ, .int .i64 4]) w e w') : PostEa false r s q U V w e w' := ⟨none, 0, none, 0, none, 0, none, 0, h.1, fun h => (by cases h), h.2⟩
theorem Of_ab (r s q : Int) (h : shT r s q 64 = true) (A B : Nat → Int) (a1 a2 a3 a4 b1 b2 b3 b4 : Nat) (w : World) (k1 : RowB w a1 64 a2 A) (k2 : RowB w a3 64 a4 (gI r s q A)) (k3 : RowB w b1 64 b2 B) (k4 : RowB w b3 64 b4 (gI r s q B)) :
    Calls Tryz.prog 20 #[.agg #[.int .i64 r, .int .i64 s, .int .i64 q, .slice (some ⟨a1, 0, none⟩) 64 a2, .slice (some ⟨a3, 0, none⟩) 64 a4], .agg #[.int .i64 r, .int .i64 s, .int .i64 q, .slice (some ⟨b1, 0, none⟩) 64 b2, .slice (some ⟨b3, 0, none⟩) 64 b4]] w (PostEa (dfI A B) r s q (T1 A B) (T2 A B) w) := by
  have ho := ord_eq h A B
  rcases cmpI_three 64 A 64 B with k | k | k
  · rw [show dfI A B = true by unfold dfI; rw [k]; rfl, show T1 A B = A by unfold T1; rw [if_pos (by omega)], show T2 A B = B by unfold T2; rw [if_pos (by omega)]]
    exact (Of_lt r s q a1 0 a2 a3 0 a4 A _ b1 0 b2 b3 0 b4 B _ (ho.trans k) w k1.bx k2.bx k3.bx k4.bx).mono fun e w' h => h.ea
  · rw [show dfI A B = false by unfold dfI; rw [k]; rfl]
    exact (Of_zero r s q _ 64 a2 _ 64 a4 r s q _ 64 b2 _ 64 b4 A B (ho.trans k) w k1.bx k3.bx).mono fun e w' h => PostEa.no h
  · rw [show dfI A B = true by unfold dfI; rw [k]; rfl, show T1 A B = B by unfold T1; rw [if_neg (by omega)], show T2 A B = A by unfold T2; rw [if_neg (by omega)]]
    exact (Of_gt r s q a1 0 a2 a3 0 a4 A _ b1 0 b2 b3 0 b4 B _ (ho.trans k) w k1.bx k2.bx k3.bx k4.bx).mono fun e w' h => h.ea
theorem dfI_swap (A B : Nat → Int) : dfI B A = dfI A B := by
  unfold dfI
  rw [cmpI_neg 64 A 64 B, Bool.eq_iff_iff]
  simp only [decide_eq_true_eq]
  omega
theorem T_swap (A B : Nat → Int) (h : dfI A B = true) : T1 B A = T1 A B ∧ T2 B A = T2 A B := by
  have hn : cmpI 64 A 64 B ≠ 0 := of_decide_eq_true h
  unfold T1 T2
  rw [cmpI_neg 64 A 64 B]
  rcases cmpI_three 64 A 64 B with k | k | k
  · rw [k, if_neg (by decide), if_pos (by decide), if_neg (by decide), if_pos (by decide)]
    exact ⟨rfl, rfl⟩
  · exact absurd k hn
  · rw [k, if_pos (by decide), if_neg (by decide), if_pos (by decide), if_neg (by decide)]
    exact ⟨rfl, rfl⟩
theorem Of_ba (r s q : Int) (h : shT r s q 64 = true) (A B : Nat → Int) (a1 a2 a3 a4 b1 b2 b3 b4 : Nat) (w : World) (k1 : RowB w a1 64 a2 A) (k2 : RowB w a3 64 a4 (gI r s q A)) (k3 : RowB w b1 64 b2 B) (k4 : RowB w b3 64 b4 (gI r s q B)) :
    Calls Tryz.prog 20 #[.agg #[.int .i64 r, .int .i64 s, .int .i64 q, .slice (some ⟨b1, 0, none⟩) 64 b2, .slice (some ⟨b3, 0, none⟩) 64 b4], .agg #[.int .i64 r, .int .i64 s, .int .i64 q, .slice (some ⟨a1, 0, none⟩) 64 a2, .slice (some ⟨a3, 0, none⟩) 64 a4]] w (PostEa (dfI A B) r s q (T1 A B) (T2 A B) w) := by
  have hc := Of_ab r s q h B A b1 b2 b3 b4 a1 a2 a3 a4 w k3 k4 k1 k2
  rw [dfI_swap] at hc
  refine hc.mono fun e w' k => ?_
  obtain ⟨p1, c1, p2, c2, p3, c3, p4, c4, he, hk, hb⟩ := k
  refine ⟨p1, c1, p2, c2, p3, c3, p4, c4, he, fun hE => ?_, hb⟩
  obtain ⟨e1, e2⟩ := T_swap A B hE
  rw [← e1, ← e2]
  exact hk hE
/-- evidence, or none -/
def PostEc (P : Prop) (w : World) (e : Ending) (w' : World) : Prop := ∃ i0 i1 i2 p1 n1 c1 p2 n2 c2 i3 i4 i5 p3 n3 c3 p4 n4 c4 code, e = .returned (.tuple #[.agg #[.int .i64 i0, .int .i64 i1, .int .i64 i2, .slice p1 n1 c1, .slice p2 n2 c2, .int .i64 i3, .int .i64 i4, .int .i64 i5, .slice p3 n3 c3, .slice p4 n4 c4], .int .i64 code]) ∧ (P → code = 4) ∧ Below w.heap.size w w'
theorem Of_any (r s q r' s' q' : Int) (h : shT r s q 64 = true) (A B : Nat → Int) (a1 a2 a3 a4 b1 b2 b3 b4 : Nat) (w : World) (k1 : RowB w a1 64 a2 A) (k2 : RowB w a3 64 a4 (gI r s q A)) (k3 : RowB w b1 64 b2 B) (k4 : RowB w b3 64 b4 (gI r' s' q' B)) :
    Calls Tryz.prog 20 #[.agg #[.int .i64 r, .int .i64 s, .int .i64 q, .slice (some ⟨a1, 0, none⟩) 64 a2, .slice (some ⟨a3, 0, none⟩) 64 a4], .agg #[.int .i64 r', .int .i64 s', .int .i64 q', .slice (some ⟨b1, 0, none⟩) 64 b2, .slice (some ⟨b3, 0, none⟩) 64 b4]] w (PostEc (¬ (r' = r ∧ s' = s ∧ q' = q)) w) := by
  by_cases he : r' = r ∧ s' = s ∧ q' = q
  · obtain ⟨rfl, rfl, rfl⟩ := he
    refine (Of_ab r' s' q' h A B a1 a2 a3 a4 b1 b2 b3 b4 w k1 k2 k3 k4).mono fun e w' k => ?_
    obtain ⟨p1, c1, p2, c2, p3, c3, p4, c4, he, hk, hb⟩ := k
    exact ⟨_, _, _, _, _, _, _, _, _, _, _, _, _, _, _, _, _, _, _, he, fun h => absurd ⟨rfl, rfl, rfl⟩ h, hb⟩
  · refine (Of_zero r s q _ 64 a2 _ 64 a4 r' s' q' _ 64 b2 _ 64 b4 A B ?_ w k1.bx k3.bx).mono fun e w' k => ⟨_, _, _, _, _, _, _, _, _, _, _, _, _, _, _, _, _, _, _, k.1, fun _ => rfl, k.2⟩
    unfold ordI
    rw [if_neg]
    intro h
    simp only [Bool.and_eq_true, decide_eq_true_eq] at h
    exact he ⟨h.2.1.symm, h.2.2.1.symm, h.2.2.2.symm⟩
set_option maxRecDepth 20000 in
set_option maxHeartbeats 4000000 in
theorem sameEv_t (r s q : Int) (n : Nat) (hn : n ≤ 1000000) (U V X Y : Nat → Int) (p1 p2 p3 p4 p5 p6 p7 p8 : Option Addr) (c1 c2 c3 c4 c5 c6 c7 c8 : Nat) (w : World) (k1 : BAt w p1 n U) (k2 : BAt w p2 n V) (k3 : BAt w p3 n X) (k4 : BAt w p4 n Y) (k5 : BAt w p5 n U) (k6 : BAt w p6 n V) (k7 : BAt w p7 n X) (k8 : BAt w p8 n Y) : Calls Tryz.prog 22 #[.agg #[.int .i64 r, .int .i64 s, .int .i64 q, .slice p1 n c1, .slice p2 n c2, .int .i64 r, .int .i64 s, .int .i64 q, .slice p3 n c3, .slice p4 n c4], .agg #[.int .i64 r, .int .i64 s, .int .i64 q, .slice p5 n c5, .slice p6 n c6, .int .i64 r, .int .i64 s, .int .i64 q, .slice p7 n c7, .slice p8 n c8]] w (PostV (.bool true) w) := by
  have hz1 := Lib.hid (fun w1 (hb : Below w.heap.size w w1) => sameRoot_t r s q p1 n c1 p2 n c2 p5 c5 p6 c6 U V hn hn w1 (k1.below hb) (k2.below hb) (k5.below hb) (k6.below hb))
  have hz2 := Lib.hid (fun w1 (hb : Below w.heap.size w w1) => sameRoot_t r s q p3 n c3 p4 n c4 p7 c7 p8 c8 X Y hn hn w1 (k3.below hb) (k4.below hb) (k7.below hb) (k8.below hb))
  clear k1 k2 k3 k4 k5 k6 k7 k8
  go_enter Tryz.func22, Tryz.ntmps22
  go_wp2_with fail
  refine calls_at (fun W0 hW => ?_)
  have hA : Blk W0 w.heap.size 36 #[.int .i64 r, .int .i64 s, .int .i64 q, .slice p1 n c1, .slice p2 n c2, .int .i64 r, .int .i64 s, .int .i64 q, .slice p3 n c3, .slice p4 n c4] := by rw [hW]; exact (Blk.new _ _ _).alloc _
  have hB : Blk W0 (w.heap.size + 1) 36 #[.int .i64 r, .int .i64 s, .int .i64 q, .slice p5 n c5, .slice p6 n c6, .int .i64 r, .int .i64 s, .int .i64 q, .slice p7 n c7, .slice p8 n c8] := by rw [hW]; exact blk_at (by simp) (Blk.new _ _ _)
  have hb0 : Below w.heap.size w W0 := by rw [hW]; go_grown
  clear hW
  refine (hz1.out W0 hb0).mono ?_
  rintro e w1 ⟨rfl, hb⟩
  replace hA := hA.below hb
  replace hB := hB.below hb
  replace hb0 := hb0.trans (hb.mono hb0.size)
  clear hb
  obtain ⟨_, y0, y1, y2, y3, y4⟩ := blk10v hA
  obtain ⟨_, z0, z1, z2, z3, z4⟩ := blk10v hB
  go_wp2_with fail
  refine (hz2.out w1 hb0).mono ?_
  rintro e w2 ⟨rfl, hb⟩
  replace hb0 := hb0.trans (hb.mono hb0.size)
  clear hb hz1 hz2 hA hB y0 y1 y2 y3 y4 z0 z1 z2 z3 z4
  go_wp2_with fail
  go_returns
  exact ⟨rfl, hb0⟩
set_option maxRecDepth 20000 in
set_option maxHeartbeats 8000000 in
/-- the replica's key is not there -/
theorem eCheck_none (p : Option Addr) (n d : Nat) (r1 s1 q1 : Int) (p1 : Option Addr) (n1 c1 : Nat) (t1 : Option Addr) (m1 d1 : Nat) (r2 s2 q2 : Int) (p2 : Option Addr) (n2 c2 : Nat) (t2 : Option Addr) (m2 d2 : Nat) (hr : (n : Int) < r1) (S1 S2 : Nat → Int) (hO : ordI r1 s1 q1 n1 m1 S1 r2 s2 q2 n2 m2 S2 < 0) (w : World) (hX1 : BX [] w p1 n1 S1) (hX2 : BX [] w p2 n2 S2) :
    Calls Tryz.prog 42 #[.slice p n d, .agg #[.int .i64 r1, .int .i64 s1, .int .i64 q1, .slice p1 n1 c1, .slice t1 m1 d1, .int .i64 r2, .int .i64 s2, .int .i64 q2, .slice p2 n2 c2, .slice t2 m2 d2]] w (PostV (.int .i64 6) w) := by
  have hmf : ∀ (fn : Fn) (first cap : Array Value) (w : World), (Instr.makeFunc fn first cap).run Tryz.prog w = .ok (.func fn first cap) w := fun _ _ _ _ => rfl
  have hp := Lib.hid (fun w1 => pairOf_c r1 s1 q1 p1 n1 c1 t1 m1 d1 r2 s2 q2 p2 n2 c2 t2 m2 d2 w1)
  have ho := fun w1 (hb : Below w.heap.size w w1) => eorder_c r1 s1 q1 p1 n1 c1 t1 m1 d1 r2 s2 q2 p2 n2 c2 t2 m2 d2 S1 S2 w1 (hX1.below hb) (hX2.below hb)
  generalize ordI r1 s1 q1 n1 m1 S1 r2 s2 q2 n2 m2 S2 = O at *
  have i2 : ¬ 0 ≤ O := by omega
  replace ho := Lib.hid ho
  clear hX1 hX2 hO
  go_enter Tryz.func42, Tryz.ntmps42
  go_wp2_with fail
  refine calls_at (fun W0 hW => ?_)
  have hb0 : Below w.heap.size w W0 := by rw [hW]; go_grown
  obtain ⟨gB, hgB⟩ : ∃ g, g = w.heap.size := ⟨_, rfl⟩
  have kB : Blk W0 gB 23 #[.slice p n d] := by rw [hW, hgB]; exact (Blk.new _ _ _).alloc _
  rw [← hgB]
  clear hW hgB
  refine (hp.out W0).mono ?_
  rintro e w2 ⟨rfl, hb2⟩
  replace kB := kB.below hb2
  replace hb0 := hb0.trans (hb2.mono hb0.size)
  clear hp hb2
  go_wp2_with fail
  refine calls_at (fun W1 hW => ?_)
  have hb1 : Below w2.heap.size w2 W1 := by rw [hW]; go_grown
  obtain ⟨gC, hgC⟩ : ∃ g, g = w2.heap.size := ⟨_, rfl⟩
  have kC : Blk W1 gC 108 #[.int .i64 r1, .int .i64 s1, .int .i64 q1, .slice p1 n1 c1, .slice t1 m1 d1, .int .i64 r2, .int .i64 s2, .int .i64 q2, .slice p2 n2 c2, .slice t2 m2 d2] := by rw [hW, hgC]; exact Blk.new _ _ _
  rw [← hgC]
  clear hW hgC
  replace kB := kB.below hb1
  replace hb0 := hb0.trans (hb1.mono hb0.size)
  clear hb1
  refine (ho.out W1 hb0).mono ?_
  rintro e w3 ⟨rfl, hb2⟩
  replace kB := kB.below hb2
  replace kC := kC.below hb2
  replace hb0 := hb0.trans (hb2.mono hb0.size)
  clear ho hb2
  have xB : w3.cell? ⟨gB, 0, none⟩ = some (.slice p n d) := kB.cell 0
  obtain ⟨⟨y0, y1, y2, y3, y4⟩, y5, y6, y7, y8, y9⟩ := blk10v kC
  go_wp2_with fail
  go_returns
  exact ⟨rfl, hb0⟩
set_option maxRecDepth 20000 in
set_option maxHeartbeats 2000000 in
/-- Pick, told exactly -/
theorem pickx_c (x : Int) (n : Nat) (h0 : 0 < n) (hn : n ≤ 4000000000) (w : World) : Calls Tryz.prog 16 #[.int .i64 x, .int .i64 n] w fun e w' => ∃ k : Nat, e = .returned (.int .i64 k) ∧ k < n ∧ (k : Int) = x % n ∧ w' = w := by
  have ht : -(n : Int) < x.tmod n ∧ x.tmod n < n := by
    have h1 := Int.tmod_lt_of_pos x (show (0 : Int) < n by omega)
    have h2 : -(n : Int) < x.tmod n := by
      have h3 := Int.tmod_lt_of_pos (-x) (show (0 : Int) < n by omega)
      rw [Int.neg_tmod] at h3
      omega
    exact ⟨h2, h1⟩
  obtain ⟨r, hr⟩ : ∃ r, r = x.tmod n := ⟨_, rfl⟩
  have hx : x = n * x.tdiv n + r := by rw [hr]; exact (Int.mul_tdiv_add_tmod x n).symm
  have hem : x % n = r % n := by rw [hx, Int.mul_add_emod_self_left]
  rw [← hr] at ht
  have hw : IntKind.i64.wrap r = r := by rw [IntKind.wrap_i64]; omega
  have hw5 : IntKind.i64.wrap (r + n) = r + n := by rw [IntKind.wrap_i64]; omega
  have hz : ¬ (n : Int) = 0 := by omega
  have hz1 : ¬ (n : Int) < 1 := by omega
  replace hem := Lib.hid hem
  clear hx
  go_enter Tryz.func16, Tryz.ntmps16
  by_cases hneg : r < 0
  · go_wp2
    rw [← hr]
    go_returns
    refine ⟨(r + n).toNat, ?_, ?_, ?_, rfl⟩
    · exact congrArg (fun z => Ending.returned (.int .i64 z)) (by omega)
    · omega
    · rw [hem.out, show ((r + n).toNat : Int) = r + n by omega, ← Int.add_emod_right, Int.emod_eq_of_lt (by omega) (by omega)]
  · go_wp2
    rw [← hr]
    go_returns
    refine ⟨r.toNat, ?_, ?_, ?_, rfl⟩
    · exact congrArg (fun z => Ending.returned (.int .i64 z)) (by omega)
    · omega
    · rw [hem.out, show (r.toNat : Int) = r by omega, Int.emod_eq_of_lt (by omega) (by omega)]
end Go.Proofs.YtgjffaoggjlamaaGreatDoor

namespace Go.Proofs.YtgjffaoggjlamaaGreatDoor
open Go Go.RowKit
/-- a cell -/
def CellAt (w : World) (g k : Nat) (v : Value) : Prop := g < w.heap.size ∧ w.cell? ⟨g, k, none⟩ = some v
theorem CellAt.below {w w' : World} {g k : Nat} {v : Value} (h : CellAt w g k v) (hb : Below w.heap.size w w') : CellAt w' g k v := ⟨Nat.lt_of_lt_of_le h.1 hb.size, (hb.cell (p := ⟨g, k, none⟩) h.1).trans h.2⟩
def RKc (x : Nat × Nat) : List Value := [.slice (some ⟨x.1, 0, none⟩) 32 x.2]
/-- a row of keys of one's own; the k-th says K (k + 1) -/
structure RowsK (B : Nat) (w : World) (v : Value) (K : Nat → Nat → Int) (L : List (Nat × Nat)) : Prop where
  own : w.ownsRow B 26 1 v L.length (L.flatMap RKc)
  ok : ∀ (k : Nat) (x : Nat × Nat), L[k]? = some x → RowB w x.1 32 x.2 (K (k + 1)) ∧ v.ownBlock ≠ some x.1
theorem RowsK.below {B : Nat} {w w' : World} {v : Value} {K : Nat → Nat → Int} {L : List (Nat × Nat)} (h : RowsK B w v K L) (hb : Below w.heap.size w w') : RowsK B w' v K L where
  own := by
    refine h.own.kept (gnone hb) ?_
    cases e : v.ownBlock with
    | none => exact .inl rfl
    | some g => exact .inr (fun h => by cases h)
  ok := fun k x hx => ⟨(h.ok k x hx).1.below hb, (h.ok k x hx).2⟩
theorem RowsK.nil (B : Nat) (w : World) (K : Nat → Nat → Int) : RowsK B w (.slice none 0 0) K [] where
  own := World.ownsRow_nil w B _ 1
  ok := fun k x hx => by simp at hx
theorem kflat_at : ∀ (L : List (Nat × Nat)) (k : Nat) (x : Nat × Nat), L[k]? = some x → (L.flatMap RKc)[k]? = some (.slice (some ⟨x.1, 0, none⟩) 32 x.2)
  | [], k, x, h => by simp at h
  | y :: L, 0, x, h => by
    obtain rfl : y = x := by simpa using h
    rfl
  | y :: L, k + 1, x, h => by
    rw [List.flatMap_cons, List.getElem?_append_right (by show 1 ≤ k + 1; omega), show k + 1 - (RKc y).length = k from rfl]
    exact kflat_at L k x (by simpa using h)
theorem RowsK.sl {B : Nat} {w : World} {v : Value} {K : Nat → Nat → Int} {L : List (Nat × Nat)} (h : RowsK B w v K L) : ∃ p c, v = .slice p L.length c ∧ L.length ≤ c := by
  rcases h.own.2 with ⟨rfl, h0⟩ | ⟨g, cap, cur, rfl, _, _, h1, _⟩
  · exact ⟨none, 0, by rw [h0], by omega⟩
  · exact ⟨_, _, rfl, h1⟩
theorem RowsK.get {B : Nat} {w : World} {p : Option Addr} {n c : Nat} {K : Nat → Nat → Int} {L : List (Nat × Nat)} (h : RowsK B w (.slice p n c) K L) (hn : n = L.length) {k : Nat} {x : Nat × Nat} (hk : L[k]? = some x) : ∃ g, p = some ⟨g, 0, none⟩ ∧ g < w.heap.size ∧ w.cell? ⟨g, k, none⟩ = some (.slice (some ⟨x.1, 0, none⟩) 32 x.2) := by
  subst hn
  have hl : k < L.length := (List.getElem?_eq_some_iff.1 hk).1
  have ho := h.own
  rcases ho.2 with ⟨_, h0⟩ | ⟨g, cap, cur, e, _, hg, _⟩
  · omega
  injection e with e1 e2 e3
  subst e1 e3
  exact ⟨g, rfl, (Array.getElem?_eq_some_iff.1 hg).1, (ho.cellAt k (by omega)).trans (kflat_at L k x hk)⟩
theorem bytes_info : (Tryz.prog.info? 26).map (fun i => (i.zero, i.size, i.bytes)) = some (some (.slice none 0 0), 1, 24) := by kernel_rfl
theorem rbytes_under : Tryz.prog.underlying 23 = some (.slice 26) := by kernel_rfl
section
variable {ops : Array Oper} {rest : List Oper} {o : Oper} {a : Act} {w : World} {Q : Exit → Act → World → Prop}
theorem wpList_appK (hgd : o.guard = none) {s x : Operand} (ho : o.op = .call { callee := .builtin .append, args := #[s, x], argTypes := #[23, 23] }) {v : Value} (hs : a.eval s = v) {B g : Nat} {K : Nat → Nat → Int} {L : List (Nat × Nat)} (u : Nat × Nat) (hR : RowsK B w v K L)
    (hx : a.eval x = .slice (some ⟨g, 0, none⟩) 1 1) (hg : Blk w g 26 #[.slice (some ⟨u.1, 0, none⟩) 32 u.2]) (hu : RowB w u.1 32 u.2 (K (L.length + 1))) (hne : v.ownBlock ≠ some u.1) (hn : L.length ≤ 1000) (hB : B ≤ w.heap.size)
    (h : ∀ v' w', RowsK B w' v' K (L ++ [u]) → w.grownBy w' v.ownBlock → wpList Tryz.prog ops Q rest (a.put o.dst v') w') : wpList Tryz.prog ops Q (o :: rest) a w := by
  obtain ⟨i0, hi, hz0, hz1, hz2⟩ := info_parts bytes_info
  refine wpList_append_own_at w hgd s x 23 ho B 26 i0 _ 1 24 rbytes_under hi hz0 hz1 hz2 rfl (by decide) v L.length (L.flatMap RKc) hs hR.own ⟨g, 0, none⟩ 1 1 (RKc u) hx rfl (fun j y hy => by rw [add_o, Nat.zero_add, hg.cell j]; simpa [RKc] using hy) (fun y hy => ?_) (by unfold maxLen; omega) (by omega) hB (fun v' w' h1 h2 _ h4 => h v' w' ?_ h2)
  · simp only [RKc, List.mem_cons, List.not_mem_nil, or_false] at hy
    rcases hy with rfl
    rfl
  · have hk : ∀ (x : Nat × Nat) F, RowB w x.1 32 x.2 F → v.ownBlock ≠ some x.1 → RowB w' x.1 32 x.2 F ∧ v'.ownBlock ≠ some x.1 := fun x F hx n1 => by
      refine ⟨hx.grown h2 (fun e => n1 e.symm), fun e => ?_⟩
      rcases h4 with h4 | h4
      · exact n1 (h4.symm.trans e)
      · have := hx.lt
        rw [h4] at e
        injection e with e
        omega
    refine ⟨?_, fun k x hx => ?_⟩
    · rw [List.length_append, List.flatMap_append]
      simpa using h1
    · by_cases hkl : k < L.length
      · rw [List.getElem?_append_left hkl] at hx
        exact hk x _ (hR.ok k x hx).1 (hR.ok k x hx).2
      · have hlt := (List.getElem?_eq_some_iff.1 hx).1
        rw [List.length_append] at hlt
        have e : k = L.length := by have : [u].length = 1 := rfl; omega
        subst e
        rw [List.getElem?_append_right (Nat.le_refl _), Nat.sub_self] at hx
        obtain rfl : u = x := by simpa using hx
        exact hk u _ hu hne
end
end Go.Proofs.YtgjffaoggjlamaaGreatDoor

namespace Go.Proofs.YtgjffaoggjlamaaGreatDoor
open Go Go.RowKit
set_option maxRecDepth 20000 in
set_option maxHeartbeats 1000000 in
theorem wtb_idle (p q : Addr) (w : World) :
    CallsD Tryz.prog 202 #[.pointer (some p), .pointer (some q)] .returning w fun e u' w' => e = .returned (.tuple #[]) ∧ u' = .returning ∧ w' = w := by
  have hnn : ∀ w : World, (binOp .neq 20 .nilIface .nilIface).run Tryz.prog w = .ok (.bool false) w := fun _ => by kernel_rfl
  refine callsD_of_wpS Tryz.func202 rfl fun c₀ cs hu => ?_
  apply wpS_seq
  apply wpS_region
  simp [wpOpsS, go_sem, recoverD, hu, Tryz.ntmps202, Exit.thenS]
  refine wpS_of_wp ?_
  rw [show (#[.pointer (some p), .pointer (some q)] ++ ((Array.replicate 19 undef).setIfInBounds 4 .nilIface).setIfInBounds 0 .nilIface) = #[.pointer (some p), .pointer (some q), .nilIface, undef, undef, undef, .nilIface, undef, undef, undef, undef, undef, undef, undef, undef, undef, undef, undef, undef, undef, undef] by kernel_rfl]
  go_wp2_with fail
  cases c₀
  simp_all [bodyPostS, results, Tryz.results202]
theorem grown_tr {w w1 w2 : World} {g : Nat} (h1 : w.grownBy w1 (some g)) (h2 : w1.grownBy w2 (some g)) : w.grownBy w2 (some g) :=
  ⟨h2.os.trans h1.os, h2.tape.trans h1.tape, h2.output.trans h1.output, Nat.le_trans h1.size h2.size, fun k hk hne => (h2.block k (Nat.lt_of_lt_of_le hk h1.size) hne).trans (h1.block k hk hne)⟩
theorem grown_below {w w1 w2 : World} {g : Nat} (h1 : w.grownBy w1 (some g)) (h2 : Below w1.heap.size w1 w2) : w.grownBy w2 (some g) :=
  ⟨h2.os.trans h1.os, h2.tape.trans h1.tape, h2.output.trans h1.output, Nat.le_trans h1.size h2.size, fun k hk hne => (h2.block k (Nat.lt_of_lt_of_le hk h1.size)).trans (h1.block k hk hne)⟩
theorem below_grown {w w1 w2 : World} {g : Nat} (h1 : Below w.heap.size w w1) (h2 : w1.grownBy w2 (some g)) : w.grownBy w2 (some g) :=
  ⟨h2.os.trans h1.os, h2.tape.trans h1.tape, h2.output.trans h1.output, Nat.le_trans h1.size h2.size, fun k hk hne => (h2.block k (Nat.lt_of_lt_of_le hk h1.size) hne).trans (h1.block k hk)⟩
theorem grown_new {w w1 w2 : World} {g : Nat} (h1 : w.grownBy w1 (some g)) {x : Nat} (hx : w.heap.size ≤ x) (h2 : w1.grownBy w2 (some x)) : w.grownBy w2 (some g) :=
  ⟨h2.os.trans h1.os, h2.tape.trans h1.tape, h2.output.trans h1.output, Nat.le_trans h1.size h2.size, fun k hk hne => (h2.block k (Nat.lt_of_lt_of_le hk h1.size) (fun e => by have := Option.some.inj e; omega)).trans (h1.block k hk hne)⟩
set_option maxRecDepth 20000 in
set_option maxHeartbeats 1000000 in
theorem countR_c (B gR n m most : Nat) (b : Nat → Int) (h8 : 8 ≤ n) (hb : Sc.Byt b) (hm : intv b = (m : Int)) (hle : m ≤ most) (w : World) (hR : Rd B w gR n b false) : Calls Tryz.prog 155 #[.pointer (some ⟨gR, 0, none⟩), .int .i64 most] w fun e w' => e = .returned (.int .i64 m) ∧ Rd B w' gR (n - 8) (fun j => b (8 + j)) false ∧ w.grownBy w' (some gR) := by
  have hn := numberR_c B gR n b false h8 hb w hR
  rw [hm] at hn
  replace hn := Lib.hid hn
  have hmt := Lib.hid wmust_t
  have h0 : (0 : Int) ≤ (m : Int) := by omega
  have h1 : (m : Int) ≤ (most : Int) := by omega
  clear hR hb hm
  go_enter Tryz.func155, Tryz.ntmps155
  go_wp2_with fail
  refine hn.out.mono ?_
  rintro e w1 ⟨rfl, hR1, hgr⟩
  replace hR1 := Lib.hid hR1
  replace hgr := Lib.hid hgr
  clear hn
  go_wp2_with fail
  refine (hmt.out w1).mono ?_
  rintro e w2 ⟨rfl, rfl⟩
  go_wp2_with fail
  go_returns
  exact ⟨rfl, hR1.out, hgr.out⟩
/-- what a reader's Bytes tells -/
def PostRb (B gR n m : Nat) (b P : Nat → Int) (w : World) (e : Ending) (w' : World) : Prop := ∃ g c, e = .returned (.slice (some ⟨g, 0, none⟩) m c) ∧ w.heap.size ≤ g ∧ RowB w' g m c P ∧ Rd B w' gR (n - (8 + m)) (fun j => b (8 + m + j)) false ∧ w.grownBy w' (some gR)
set_option maxRecDepth 20000 in
set_option maxHeartbeats 2000000 in
theorem bytesCl_c (gP gM B gR n m most : Nat) (b P : Nat → Int) (hb : Sc.Byt b) (h0 : 0 < m) (hle : m ≤ most) (hmo : most ≤ 1000000) (hn : 8 + m ≤ n) (hP : ∀ j, j < 8 + m → b j = byI m P j) (w : World) (hR : Rd B w gR n b false) (kP : Blk w gP 114 #[.pointer (some ⟨gR, 0, none⟩)]) (kM : Blk w gM 3 #[.int .i64 most]) (n1 : gP ≠ gR) (n2 : gM ≠ gR) :
    Calls Tryz.prog 153 #[.pointer (some ⟨gP, 0, none⟩), .pointer (some ⟨gM, 0, none⟩)] w (PostRb B gR n m b P w) := by
  have hi : intv b = (m : Int) := byI_num (by omega) (b := P) (fun j hj => hP j (by omega))
  have hc := Lib.hid (fun w1 (hR : Rd B w1 gR n b false) => countR_c B gR n m most b (by omega) hb hi hle w1 hR)
  have ht := Lib.hid (fun w1 (hR : Rd B w1 gR (n - 8) (fun j => b (8 + j)) false) => takeR_c B gR (n - 8) m (fun j => b (8 + j)) false (by omega) w1 hR)
  have hcl := Lib.hid (fun g o c w1 (hg : g < w1.heap.size) (hc : ∀ j, j < m → w1.cell? ⟨g, o + j, none⟩ = some (.int .u8 (b (8 + j)))) => cloneB_c g o m c (fun j => b (8 + j)) (by omega) w1 hg hc)
  have l0 := kP.lt
  have l1 := kM.lt
  have lR := hR.lt
  have hSS := Lib.hid (fun (w' : World) (h : ∀ k, k < w.heap.size → some k ≠ some gR → w'.heap[k]? = w.heap[k]?) => (⟨(World.cell?_of_block (h gP l0 (fun e => n1 (Option.some.inj e)))).trans (kP.cell 0), (World.cell?_of_block (h gM l1 (fun e => n2 (Option.some.inj e)))).trans (kM.cell 0)⟩ : w'.cell? ⟨gP, 0, none⟩ = some (.pointer (some ⟨gR, 0, none⟩)) ∧ w'.cell? ⟨gM, 0, none⟩ = some (.int .i64 most)))
  have hPr := Lib.hid (fun j (hj : j < m) => (hP (8 + j) (by omega)).trans (byI_hi m P j hj))
  have z0 := Below.refl w.heap.size w
  replace hR := Lib.hid hR
  clear hb hle hmo hi hP kP kM
  go_enter Tryz.func153, Tryz.ntmps153
  go_upto_region 1 with fail
  go_region_held3 (fun w' => w'.cell? ⟨gP, 0, none⟩ = some (.pointer (some ⟨gR, 0, none⟩)) ∧ w'.cell? ⟨gM, 0, none⟩ = some (.int .i64 most)) (first | exact hSS.out _ hgC.block | exact hSS.out _ hgB.block | exact hSS.out _ hgA.block | exact hSS.out _ (fun _ _ _ => rfl)) (first | (go_at_call 155; refine calls_at (fun V1 h1 => ?_); have m1 : Below w.heap.size w V1 := (by rw [h1]; go_grown); clear h1; (with_reducible refine (hc.out V1 (hR.out.below m1)).mono ?_); rintro e w1 ⟨rfl, hR1, hg1⟩; have hgA := below_grown m1 hg1; clear m1 hg1) | (go_at_call 154; (with_reducible refine (ht.out w1 hR1).mono ?_); rintro e w2 ⟨⟨p, c, rfl, hmc, hcell⟩, hR2, hg2⟩; obtain ⟨g, o, rfl, lg, hne, hcc⟩ := hcell h0; have hgB := grown_tr hgA hg2; clear hcell hg2) | (go_at_call 86; (with_reducible refine (hcl.out g o c w2 lg hcc).mono ?_); rintro e w3 ⟨g3, c3, rfl, lg3, kR, hb3⟩; have hgC := grown_below hgB hb3))
  all_goals
    have hs := hgB.size
    have hPo := Lib.hid (show PostRb B gR n m b P w (.returned (.slice (some ⟨g3, 0, none⟩) m c3)) w3 from ⟨g3, c3, rfl, by omega, kR.congr (fun j hj => hPr.out j hj), by
      have h := hR2.below hb3
      rw [show n - 8 - m = n - (8 + m) by omega, show (fun j => (fun j => b (8 + j)) (m + j)) = fun j => b (8 + m + j) from funext fun j => by show b (8 + (m + j)) = _; rw [Nat.add_assoc]] at h
      exact h, hgC⟩)
    clear hR2 hgB hgA hgC hcc kR hb3 hcl hs lg lg3 hPr hSS hR1 z0
    go_wp2_with fail
    go_returns
    exact hPo.out
set_option maxRecDepth 20000 in
set_option maxHeartbeats 1000000 in
theorem triedB_c (gP gM B gR n m : Nat) (b P : Nat → Int) (w : World) (hR : Rd B w gR n b false)
    (hcl : ∀ w1, Below w.heap.size w w1 → Calls Tryz.prog 153 #[.pointer (some ⟨gP, 0, none⟩), .pointer (some ⟨gM, 0, none⟩)] w1 (PostRb B gR n m b P w1)) :
    Calls Tryz.prog 152 #[.pointer (some ⟨gR, 0, none⟩), .func (.func 153) #[] #[.pointer (some ⟨gP, 0, none⟩), .pointer (some ⟨gM, 0, none⟩)]] w (PostRb B gR n m b P w) := by
  have hmf : ∀ (fn : Fn) (first cap : Array Value) (w : World), (Instr.makeFunc fn first cap).run Tryz.prog w = .ok (.func fn first cap) w := fun _ _ _ _ => rfl
  have hg := Lib.hid (fun w1 (h : Below w.heap.size w w1) => (hR.below h).good)
  have hnum := Lib.hid hcl
  have hlt := hR.lt
  have hBw : B ≤ w.heap.size := by obtain ⟨_, _, _, h, _⟩ := hR; exact h
  clear hR hcl
  go_enter_defers Tryz.func152, Tryz.ntmps152
  go_wp2_with fail
  obtain ⟨GP, hGP⟩ : ∃ GP, GP = w.heap.size := ⟨_, rfl⟩
  rw [← hGP]
  refine calls_at (fun w1 hW => ?_)
  have hb1 : Below w.heap.size w w1 := by rw [hW]; exact ((Below.refl _ _).alloc (Nat.le_refl _) _).alloc (by rw [World.size_alloc]; omega) _
  have kX : Blk w1 (GP + 1) 26 #[.slice none 0 0] := by rw [hW, hGP]; exact blk_at (by simp) (Blk.new _ _ _)
  have n1 : GP + 1 ≠ gR := by omega
  have lo : w.heap.size ≤ GP := by omega
  clear hW hGP
  refine (hg.out w1 hb1).mono ?_
  rintro e w2 ⟨rfl, rfl⟩
  have hnum1 := Lib.hid (hnum.out w1 hb1)
  replace hb1 := Lib.hid hb1
  replace kX := Lib.hid kX
  clear hnum hg
  go_wp2_with fail
  refine hnum1.out.mono ?_
  rintro e w3 ⟨g, c, rfl, lg, kR, hR3, hgr⟩
  have lX := kX.out.lt
  have kX3 := kX.out.grown hgr (fun e => n1 (Option.some.inj e))
  have cX := kX3.cell 0
  have fX := kX3.frozen 0
  simp only [List.getElem?_toArray, List.getElem?_cons_zero] at cX
  replace hR3 := Lib.hid hR3
  replace kR := Lib.hid kR
  replace hgr := Lib.hid hgr
  clear hnum1 kX kX3
  go_wp2_with fail
  refine leaves_cons (f := 202) (args := #[.pointer (some ⟨GP, 0, none⟩), .pointer (some ⟨GP + 1, 0, none⟩)]) (by simp) (by simp [go_sem]) ?_
  refine (wtb_idle ⟨GP, 0, none⟩ ⟨GP + 1, 0, none⟩ _).mono ?_
  rintro e u' w'' ⟨rfl, rfl, rfl⟩
  have hs := wgrown_set w3 (GP + 1) 0 (.slice (some ⟨g, 0, none⟩) m c)
  have ls := hb1.out.size
  have hfin : PostRb B gR n m b P w (.returned (.slice (some ⟨g, 0, none⟩) m c)) (w3.setCell ⟨GP + 1, 0, none⟩ (.slice (some ⟨g, 0, none⟩) m c)) := ⟨g, c, rfl, by omega, kR.out.grown hs (fun e => by have := Option.some.inj e; omega), hR3.out.grown hs (by omega) (by omega), grown_new (below_grown hb1.out hgr.out) (by omega) hs⟩
  simp [Leaves, settle, results, Tryz.results152, go_sem]
  have c9 : (w3.setCell ⟨GP + 1, 0, none⟩ (.slice (some ⟨g, 0, none⟩) m c)).cell? ⟨GP + 1, 0, none⟩ = some (.slice (some ⟨g, 0, none⟩) m c) := World.cell?_setCell_same _ _ _ cX
  rw [c9]
  exact ⟨_, rfl, hfin⟩
set_option maxRecDepth 20000 in
set_option maxHeartbeats 1000000 in
theorem rdBytes_c (B gR n m most : Nat) (b P : Nat → Int) (hb : Sc.Byt b) (h0 : 0 < m) (hle : m ≤ most) (hmo : most ≤ 1000000) (hn : 8 + m ≤ n) (hP : ∀ j, j < 8 + m → b j = byI m P j) (w : World) (hR : Rd B w gR n b false) : Calls Tryz.prog 102 #[.pointer (some ⟨gR, 0, none⟩), .int .i64 most] w (PostRb B gR n m b P w) := by
  have hmf : ∀ (fn : Fn) (first cap : Array Value) (w : World), (Instr.makeFunc fn first cap).run Tryz.prog w = .ok (.func fn first cap) w := fun _ _ _ _ => rfl
  have ht := Lib.hid (fun gP gM w1 (n1 : gP ≠ gR) (n2 : gM ≠ gR) (hb1 : Below w.heap.size w w1) (kP : Blk w1 gP 114 #[.pointer (some ⟨gR, 0, none⟩)]) (kM : Blk w1 gM 3 #[.int .i64 most]) => triedB_c gP gM B gR n m b P w1 (hR.below hb1) (fun w2 hb2 => bytesCl_c gP gM B gR n m most b P hb h0 hle hmo hn hP w2 ((hR.below hb1).below hb2) (kP.below hb2) (kM.below hb2) n1 n2))
  have lR := hR.lt
  clear hR hb h0 hle hmo hn hP
  go_enter Tryz.func102, Tryz.ntmps102
  go_wp2_with fail
  refine calls_at (fun w1 hW => ?_)
  have hb1 : Below w.heap.size w w1 := by rw [hW]; go_grown
  have kP : Blk w1 w.heap.size 114 #[.pointer (some ⟨gR, 0, none⟩)] := by rw [hW]; exact (Blk.new _ _ _).alloc _
  have kM : Blk w1 (w.heap.size + 1) 3 #[.int .i64 most] := by rw [hW]; exact blk_at (by simp) (Blk.new _ _ _)
  clear hW
  refine (ht.out _ _ w1 (by omega) (by omega) hb1 kP kM).mono ?_
  rintro e w2 ⟨g, c, rfl, lg, kR, hR2, hgr⟩
  have hs := hb1.size
  have hPo := Lib.hid (show PostRb B gR n m b P w (.returned (.slice (some ⟨g, 0, none⟩) m c)) w2 from ⟨g, c, rfl, by omega, kR, hR2, below_grown hb1 hgr⟩)
  clear ht kP kM hb1 kR hR2 hgr lg hs
  go_wp2_with fail
  go_returns
  exact hPo.out
set_option maxRecDepth 20000 in
set_option maxHeartbeats 1000000 in
theorem done_c (B gR : Nat) (b : Nat → Int) (w : World) (hR : Rd B w gR 0 b false) : Calls Tryz.prog 103 #[.pointer (some ⟨gR, 0, none⟩)] w fun e w' => e = .returned (.bool true) ∧ w = w' := by
  have hg := Lib.hid hR.good
  obtain ⟨p, c, hB, -, -, -⟩ := hR
  have c0 : w.cell? ⟨gR, 0, none⟩ = some (.slice p 0 c) := hB.cell 0
  clear hB
  go_enter Tryz.func103, Tryz.ntmps103
  go_wp2_with fail
  refine hg.out.mono ?_
  rintro e w1 ⟨rfl, rfl⟩
  clear hg
  go_wp2
  go_returns
  exact ⟨rfl, rfl⟩
end Go.Proofs.YtgjffaoggjlamaaGreatDoor

namespace Go.Proofs.YtgjffaoggjlamaaGreatDoor
open Go Go.RowKit
def PostGz (r s q : Int) (S G : Nat → Int) (w : World) (e : Ending) (w' : World) : Prop := ∃ g1 c1 g2 c2, e = .returned (.tuple #[.agg #[.int .i64 r, .int .i64 s, .int .i64 q, .slice (some ⟨g1, 0, none⟩) 64 c1, .slice (some ⟨g2, 0, none⟩) 64 c2], .int .i64 0]) ∧ w.heap.size ≤ g1 ∧ w.heap.size ≤ g2 ∧ RowB w' g1 64 c1 S ∧ RowB w' g2 64 c2 G ∧ Below w.heap.size w w'
/-- what was put is got as it was, in memory of its own -/
theorem Get_put2 (g c : Nat) (r s q : Int) (S G : Nat → Int) (e1 : shT r s q 64 = true) (hS : Sc.Byt S) (hG : Sc.Byt G) (w : World) (hR : RowB w g 153 c (rpI r s q S G)) : Calls Tryz.prog 25 #[.slice (some ⟨g, 0, none⟩) 153 c] w (PostGz r s q S G w) := by
  obtain ⟨k0, k1, k2, k3, k4, k5⟩ := rp_get e1 S G
  refine (Get_ok g 0 c _ (rp_byt hS hG) hR.cap k0 (by rw [k1, k2, k3]; exact e1) w hR.lt (fun j hj => by rw [Nat.zero_add]; exact hR.cell j hj)).mono fun e w' k => ?_
  obtain ⟨g1, c1, g2, c2, he, m1, m2, q1, q2, hb⟩ := k
  rw [k1, k2, k3] at he
  exact ⟨g1, c1, g2, c2, he, m1, m2, q1.congr k4, q2.congr k5, hb⟩
set_option maxRecDepth 20000 in
set_option maxHeartbeats 8000000 in
theorem eGet_c (g c : Nat) (r s q : Int) (hyes : shT r s q 64 = true) (S1 G1 S2 G2 : Nat → Int) (b1 : Sc.Byt S1) (b2 : Sc.Byt G1) (b3 : Sc.Byt S2) (b4 : Sc.Byt G2) (hO : ordI r s q 64 64 S1 r s q 64 64 S2 < 0) (w : World) (hR : RowB w g 322 c (evI r s q S1 G1 S2 G2)) :
    Calls Tryz.prog 41 #[.slice (some ⟨g, 0, none⟩) 322 c] w (PostEv r s q S1 G1 S2 G2 w) := by
  have hnr := fun w1 (hb : Below w.heap.size w w1) => newrd_c g 0 322 c (evI r s q S1 G1 S2 G2) (by decide) w1 (hR.below hb).lt (fun j hj => by rw [Nat.zero_add]; exact (hR.below hb).cell j hj)
  have hB1 := fun gR B w1 (k : Rd B w1 gR 322 (evI r s q S1 G1 S2 G2) false) => rdBytes_c B gR 322 153 153 (evI r s q S1 G1 S2 G2) (rpI r s q S1 G1) (evI_byt r s q b1 b2 b3 b4) (by decide) (by decide) (by decide) (by decide) (fun j hj => evI_1 r s q S1 G1 S2 G2 j hj) w1 k
  have hB2 := fun gR B w1 (k : Rd B w1 gR 161 (fun j => evI r s q S1 G1 S2 G2 (8 + 153 + j)) false) => rdBytes_c B gR 161 153 153 (fun j => evI r s q S1 G1 S2 G2 (8 + 153 + j)) (rpI r s q S2 G2) (fun j => evI_byt r s q b1 b2 b3 b4 _) (by decide) (by decide) (by decide) (by decide) (fun j hj => evI_2 r s q S1 G1 S2 G2 j hj) w1 k
  have hG1 := Lib.hid (fun g1 c1 w1 (k : RowB w1 g1 153 c1 (rpI r s q S1 G1)) => Get_put2 g1 c1 r s q S1 G1 hyes b1 b2 w1 k)
  have hG2 := Lib.hid (fun g1 c1 w1 (k : RowB w1 g1 153 c1 (rpI r s q S2 G2)) => Get_put2 g1 c1 r s q S2 G2 hyes b3 b4 w1 k)
  have hdn := Lib.hid (fun B gR b w1 (k : Rd B w1 gR 0 b false) => done_c B gR b w1 k)
  have hrt := fun a1 c1 a2 c2 a3 c3 a4 c4 w1 (k1 : RowB w1 a1 64 c1 S1) (k3 : RowB w1 a3 64 c3 S2) => eRight_c r s q (some ⟨a1, 0, none⟩) 64 c1 (some ⟨a2, 0, none⟩) 64 c2 r s q (some ⟨a3, 0, none⟩) 64 c3 (some ⟨a4, 0, none⟩) 64 c4 S1 S2 w1 k1.bx k3.bx
  rw [decide_eq_true hO] at hrt
  replace hrt := Lib.hid hrt
  obtain ⟨EV, hEV⟩ : ∃ N, N = evI r s q S1 G1 S2 G2 := ⟨_, rfl⟩
  obtain ⟨P1, hP1⟩ : ∃ N, N = rpI r s q S1 G1 := ⟨_, rfl⟩
  obtain ⟨P2, hP2⟩ : ∃ N, N = rpI r s q S2 G2 := ⟨_, rfl⟩
  rw [← hEV] at hnr hB1 hB2
  rw [← hP1] at hB1 hG1
  rw [← hP2] at hB2 hG2
  replace hnr := Lib.hid hnr
  replace hB1 := Lib.hid hB1
  replace hB2 := Lib.hid hB2
  clear hR hEV hP1 hP2 b1 b2 b3 b4 hO hyes
  go_enter Tryz.func41, Tryz.ntmps41
  go_wp2_with fail
  refine calls_at (fun W0 hW => ?_)
  obtain ⟨gE, hgE⟩ : ∃ g, g = w.heap.size := ⟨_, rfl⟩
  have hb0 : Below w.heap.size w W0 := by rw [hW]; go_grown
  have kE : Blk W0 gE 36 #[.int .i64 0, .int .i64 0, .int .i64 0, .slice none 0 0, .slice none 0 0, .int .i64 0, .int .i64 0, .int .i64 0, .slice none 0 0, .slice none 0 0] := by rw [hW, hgE]; exact Blk.new _ _ _
  have lE : w.heap.size ≤ gE := by omega
  rw [← hgE]
  clear hW hgE
  refine (hnr.out W0 hb0).mono ?_
  rintro e w1 ⟨gR, rfl, lR, hR, hb⟩
  have nE : gE ≠ gR := by have := kE.lt; omega
  have lR2 : w.heap.size ≤ gR := by have := hb0.size; omega
  replace kE := kE.below hb
  replace hb0 := hb0.trans (hb.mono hb0.size)
  clear hnr hb lR
  go_wp2_with fail
  refine (hB1.out gR gR w1 hR).mono ?_
  rintro e w2 ⟨g1, c1, rfl, l1, k1, hR2, hg⟩
  replace kE := kE.grown hg (fun e => nE (Option.some.inj e))
  replace hb0 : Below w.heap.size w w2 := hb0.grown hg hb0.size (fun k e => by have : gR = k := Option.some.inj e; omega)
  clear hg hR hB1
  go_wp2_with fail
  refine (hG1.out g1 c1 w2 k1).mono ?_
  rintro e w3 ⟨a1, d1, a2, d2, rfl, m1, m2, r1, r2, hb⟩
  have n1 : a1 ≠ gR := by have := hR2.lt; omega
  have n2 : a2 ≠ gR := by have := hR2.lt; omega
  have e1 : a1 ≠ gE := by have := kE.lt; omega
  have e2 : a2 ≠ gE := by have := kE.lt; omega
  clear m1 m2
  replace hR2 := hR2.below hb
  replace kE := kE.below hb
  replace hb0 := hb0.trans (hb.mono hb0.size)
  clear hb k1 hG1
  go_wp2_with fail
  refine calls_at (fun W hW => ?_)
  have hb : Below w3.heap.size w3 W := by rw [hW]; go_grown
  obtain ⟨g5, hg5⟩ : ∃ g, g = w3.heap.size := ⟨_, rfl⟩
  have k5 : Blk W g5 28 #[.int .i64 r, .int .i64 s, .int .i64 q, .slice (some ⟨a1, 0, none⟩) 64 d1, .slice (some ⟨a2, 0, none⟩) 64 d2] := by rw [hW, hg5]; exact Blk.new _ _ _
  have n5 : g5 ≠ gR := by have := hR2.lt; omega
  rw [← hg5]
  clear hW hg5
  replace hR2 := hR2.below hb
  replace kE := kE.below hb
  replace r1 := r1.below hb
  replace r2 := r2.below hb
  replace hb0 := hb0.trans (hb.mono hb0.size)
  clear hb
  refine (hB2.out gR gR W hR2).mono ?_
  rintro e w4 ⟨g2, c2, rfl, l2, k2, hR3, hg⟩
  replace kE := kE.grown hg (fun e => nE (Option.some.inj e))
  replace k5 := k5.grown hg (fun e => n5 (Option.some.inj e))
  replace r1 := r1.grown hg (fun e => n1 (Option.some.inj e))
  replace r2 := r2.grown hg (fun e => n2 (Option.some.inj e))
  replace hb0 : Below w.heap.size w w4 := hb0.grown hg hb0.size (fun k e => by have : gR = k := Option.some.inj e; omega)
  clear hg hR2 hB2
  go_wp2_with fail
  refine (hG2.out g2 c2 w4 k2).mono ?_
  rintro e w5 ⟨a3, d3, a4, d4, rfl, m1, m2, r3, r4, hb⟩
  have e3 : a3 ≠ gE := by have := kE.lt; omega
  have e4 : a4 ≠ gE := by have := kE.lt; omega
  clear m1 m2
  replace hR3 := hR3.below hb
  replace kE := kE.below hb
  replace k5 := k5.below hb
  replace r1 := r1.below hb
  replace r2 := r2.below hb
  replace hb0 := hb0.trans (hb.mono hb0.size)
  clear hb k2 hG2
  obtain ⟨y0, y1, y2, y3, y4⟩ := blk5v k5
  have l5 := k5.lt
  go_upto_region 5 with fail
  refine at_world (fun W2 hW => ?_)
  have hb : Below w5.heap.size w5 W2 := by rw [hW]; go_grown
  obtain ⟨g9, hg9⟩ : ∃ g, g = w5.heap.size + 1 := ⟨_, rfl⟩
  have k9 : Blk W2 g9 36 #[.int .i64 r, .int .i64 s, .int .i64 q, .slice (some ⟨a1, 0, none⟩) 64 d1, .slice (some ⟨a2, 0, none⟩) 64 d2, .int .i64 r, .int .i64 s, .int .i64 q, .slice (some ⟨a3, 0, none⟩) 64 d3, .slice (some ⟨a4, 0, none⟩) 64 d4] := by rw [hW, hg9]; exact blk_at (by simp) (Blk.new _ _ _)
  rw [← hg9]
  clear hW hg9 y0 y1 y2 y3 y4 l5 k5
  replace hR3 := hR3.below hb
  replace kE := kE.below hb
  replace r1 := r1.below hb
  replace r2 := r2.below hb
  replace r3 := r3.below hb
  replace r4 := r4.below hb
  replace hb0 := hb0.trans (hb.mono hb0.size)
  clear hb
  go_wp2_with fail
  refine (hdn.out gR gR _ W2 hR3).mono ?_
  rintro e w6 ⟨rfl, rfl⟩
  obtain ⟨⟨y0, y1, y2, y3, y4⟩, y5, y6, y7, y8, y9⟩ := blk10v k9
  have l9 := k9.lt
  clear hdn hR3
  go_wp2_with fail
  refine (hrt.out a1 d1 a2 d2 a3 d3 a4 d4 W2 r1 r3).mono ?_
  rintro e w7 ⟨rfl, hb⟩
  replace kE := kE.below hb
  replace k9 := k9.below hb
  replace r1 := r1.below hb
  replace r2 := r2.below hb
  replace r3 := r3.below hb
  replace r4 := r4.below hb
  replace hb0 := hb0.trans (hb.mono hb0.size)
  clear hb hrt y0 y1 y2 y3 y4 y5 y6 y7 y8 y9 l9
  obtain ⟨⟨y0, y1, y2, y3, y4⟩, y5, y6, y7, y8, y9⟩ := blk10v k9
  have f0 := kE.frozen 0
  have f1 := kE.frozen 1
  have f2 := kE.frozen 2
  have f3 := kE.frozen 3
  have f4 := kE.frozen 4
  have f5 := kE.frozen 5
  have f6 := kE.frozen 6
  have f7 := kE.frozen 7
  have f8 := kE.frozen 8
  have f9 := kE.frozen 9
  obtain ⟨⟨v0, v1, v2, v3, v4⟩, v5, v6, v7, v8, v9⟩ := blk10v kE
  have lE5 := kE.lt
  have hs7 := hb0.size
  replace kE := Lib.hid kE
  replace r1 := Lib.hid r1
  replace r2 := Lib.hid r2
  replace r3 := Lib.hid r3
  replace r4 := Lib.hid r4
  replace hb0 := Lib.hid hb0
  clear k9
  go_wp2_with fail
  obtain ⟨kF, hgF⟩ := setTen w7 gE (.int .i64 r) (.int .i64 s) (.int .i64 q) (.slice (some ⟨a1, 0, none⟩) 64 d1) (.slice (some ⟨a2, 0, none⟩) 64 d2) (.int .i64 r) (.int .i64 s) (.int .i64 q) (.slice (some ⟨a3, 0, none⟩) 64 d3) (.slice (some ⟨a4, 0, none⟩) 64 d4) kE.out
  generalize ((((((((((w7.setCell ⟨gE, 0, none⟩ (.int .i64 r)).setCell ⟨gE, 1, none⟩ (.int .i64 s)).setCell ⟨gE, 2, none⟩ (.int .i64 q)).setCell ⟨gE, 3, none⟩ (.slice (some ⟨a1, 0, none⟩) 64 d1)).setCell ⟨gE, 4, none⟩ (.slice (some ⟨a2, 0, none⟩) 64 d2)).setCell ⟨gE, 5, none⟩ (.int .i64 r)).setCell ⟨gE, 6, none⟩ (.int .i64 s)).setCell ⟨gE, 7, none⟩ (.int .i64 q)).setCell ⟨gE, 8, none⟩ (.slice (some ⟨a3, 0, none⟩) 64 d3)).setCell ⟨gE, 9, none⟩ (.slice (some ⟨a4, 0, none⟩) 64 d4)) = w13 at *
  obtain ⟨⟨u0, u1, u2, u3, u4⟩, u5, u6, u7, u8, u9⟩ := blk10v kF
  have hbf : Below w.heap.size w w13 := hb0.out.grown hgF hs7 (fun k hk => by have : gE = k := Option.some.inj hk; omega)
  exact bodyPost_ret (v := .tuple #[.agg #[.int .i64 r, .int .i64 s, .int .i64 q, .slice (some ⟨a1, 0, none⟩) 64 d1, .slice (some ⟨a2, 0, none⟩) 64 d2, .int .i64 r, .int .i64 s, .int .i64 q, .slice (some ⟨a3, 0, none⟩) 64 d3, .slice (some ⟨a4, 0, none⟩) 64 d4], .int .i64 0]) (by simp [results, Tryz.results41, go_sem, u0, u1, u2, u3, u4, u5, u6, u7, u8, u9]) rfl ⟨a1, d1, a2, d2, a3, d3, a4, d4, rfl, r1.out.grown hgF (fun e => e1 (Option.some.inj e)), r2.out.grown hgF (fun e => e2 (Option.some.inj e)), r3.out.grown hgF (fun e => e3 (Option.some.inj e)), r4.out.grown hgF (fun e => e4 (Option.some.inj e)), hbf⟩
end Go.Proofs.YtgjffaoggjlamaaGreatDoor
