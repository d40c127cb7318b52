/- root: Check of what is no root. root: Check of a root whose signature fits. law15: of, great. root, plain: a root's text and bytes tell it. SameRoot. An argument that is a root, opened. root: Get and Put of anything; there and back. -/
import Derived.Test.YtgjffaoggjlamaaGreatDoorNc
import Derived.Test.YtgjffaoggjlamaaGreatDoorNb
import Derived.Test.YtgjffaoggjlamaaGreatDoorCr
import Derived.Test.YtgjffaoggjlamaaGreatDoorCv
import Derived.Test.YtgjffaoggjlamaaGreatDoorCc
namespace Go.Proofs.YtgjffaoggjlamaaGreatDoor
open Go Go.RowKit
end Go.Proofs.YtgjffaoggjlamaaGreatDoor

namespace Go.Proofs.YtgjffaoggjlamaaGreatDoor
open Go Go.RowKit
set_option maxRecDepth 20000 in
theorem Check_true (g1 o1 ck g o d : Nat) (r s q : Int) (p1 : Option Addr) (c1 : Nat) (S b G : Nat → Int) (hyes : shT r s q 64 = true) (hc1 : 64 ≤ c1) (hck : 32 ≤ ck) (hd : 64 ≤ d) (hb : Sc.Byt b) (hG : Sc.Byt G) (hSr : ∀ j, j < 64 → 0 ≤ S j ∧ S j < 256) (hv : Sh.verI b G [(89, txI r s q S)] = true) (w : World) (hg1 : g1 < w.heap.size) (hk : ∀ j, j < 32 → w.cell? ⟨g1, o1 + j, none⟩ = some (.int .u8 (b j))) (hg : g < w.heap.size) (hs : ∀ j, j < 64 → w.cell? ⟨g, o + j, none⟩ = some (.int .u8 (G j))) (hX : BX [] w p1 64 S) (hSh : ShP w) (hCv : CvP w) :
    Calls Tryz.prog 17 #[.slice (some ⟨g1, o1, none⟩) 32 ck, .agg #[.int .i64 r, .int .i64 s, .int .i64 q, .slice p1 64 c1, .slice (some ⟨g, o, none⟩) 64 d]] w (PostV (.int .i64 0) w) := by
  have lB := hSh.lt
  have lC := hCv.lt
  obtain ⟨a1, a2, a3, a4, a5, a6, _⟩ := shT_true hyes
  have htr : ∀ j, j < 89 → 0 ≤ txI r s q S j ∧ txI r s q S j < 256 := fun j _ => Sh.catI_r [(1, fun _ => 2), (24, num3 r s q), (64, S)] ⟨fun j _ => (show (0 : Int) ≤ 2 ∧ (2 : Int) < 256 by decide), fun j _ => ⟨Int.emod_nonneg _ (by decide), Int.emod_lt_of_pos _ (by decide)⟩, hSr, trivial⟩ j
  refine Check_ok _ _ _ r s q p1 64 c1 _ 64 d w (fun gr gk w1 hb0 hB hK => ?_)
  refine check_c gr gk r s q p1 c1 _ d _ 32 ck S hyes hc1 w1 hB hK (hX.below hb0) (fun g8 c8 w2 hb1 hR => ?_)
  have ha : Below w2.heap.size w2 (w2.alloc (.cells #[.slice (some ⟨g8, 0, none⟩) 89 c8] 26)) := (Below.refl _ _).alloc (Nat.le_refl _) _
  have hb2 := (hb0.trans (hb1.mono hb0.size)).trans (ha.mono (Nat.le_trans hb0.size hb1.size))
  rw [← hv]
  exact Verify_c g1 o1 ck g o d b G _ [.slice (some ⟨g8, 0, none⟩) 89 c8] [(89, txI r s q S)] _ hck hd hb hG (Nat.lt_of_lt_of_le hg1 hb2.size) (fun j hj => (hb2.cell (p := ⟨g1, o1 + j, none⟩) hg1).trans (hk j hj)) (Nat.lt_of_lt_of_le hg hb2.size) (fun j hj => (hb2.cell (p := ⟨g, o + j, none⟩) hg).trans (hs j hj)) (hCv.below hb2 lC) (parts_new w2 [.slice (some ⟨g8, 0, none⟩) 89 c8] (by show 0 < 1; decide) _) ⟨(hR.below ha).pv, trivial⟩ ⟨htr, trivial⟩ (by show 89 + 0 ≤ 1000000; decide) (by show 1 ≤ 10000; decide) (hSh.below hb2 lB) (by have := hb2.size; omega)
end Go.Proofs.YtgjffaoggjlamaaGreatDoor

namespace Go.Proofs.YtgjffaoggjlamaaGreatDoor
open Go Go.RowKit
theorem row_zero (w : World) (k : Nat) (hk : k ≤ 1000) : RowB (w.alloc (.cells (List.replicate k (.int .u8 0)).toArray 5)) w.heap.size k k (fun _ => 0) := by
  refine ⟨(List.replicate k (.int .u8 0)).toArray, ?_, Nat.le_refl _, by unfold maxLen; omega, by simp, ?_⟩
  · unfold World.alloc
    simp
  · apply List.ext_getElem? 
    intro i
    by_cases hi : i < k
    · rw [cB_get k (fun _ => 0) i hi]
      simp [hi]
    · rw [List.getElem?_eq_none (by simp; omega), List.getElem?_eq_none (by rw [cB_len]; omega)]
end Go.Proofs.YtgjffaoggjlamaaGreatDoor

namespace Go.Proofs.YtgjffaoggjlamaaGreatDoor
open Go Go.RowKit
def wvN (c : Nat → Nat) : Nat → Nat
  | 0 => 0
  | k + 1 => 256 * wvN c k + c k
theorem wvN_lt {c : Nat → Nat} (hc : ∀ j, c j < 256) : ∀ k, wvN c k < 256 ^ k
  | 0 => Nat.one_pos
  | k + 1 => by
    have h := wvN_lt hc k
    have h2 := hc k
    show 256 * wvN c k + c k < 256 ^ k * 256
    generalize 256 ^ k = p at *
    omega
theorem wv_n {b : Nat → Int} {c : Nat → Nat} (hb : ∀ j, b j = (c j : Int)) (hc : ∀ j, c j < 256) : ∀ k, k ≤ 8 → wv b k = ((wvN c k : Nat) : Int)
  | 0, _ => rfl
  | k + 1, hk => by
    have ih := wv_n hb hc k (by omega)
    have h1 := wvN_lt hc k
    have h2 := hc k
    have hp : 256 ^ k ≤ 256 ^ 7 := Nat.pow_le_pow_right (by decide) (by omega)
    have h3 : wvN c k < 72057594037927936 := Nat.lt_of_lt_of_le h1 hp
    show bits .or .u64 (IntKind.u64.wrap (wv b k * 256)) (b k) = _
    rw [ih, hb k, show ((wvN c k : Nat) : Int) * 256 = ((wvN c k * 256 : Nat) : Int) by simp, Sh.wrap_n, Sh.or_n]
    unfold Sh.orN
    rw [Nat.mod_mod, Nat.mod_eq_of_lt (show wvN c k * 256 < 18446744073709551616 by omega), Nat.mod_eq_of_lt (show c k < 18446744073709551616 by omega), Nat.mul_comm, show 256 * wvN c k = 2 ^ 8 * wvN c k from rfl, ← Nat.two_pow_add_eq_or_of_lt (show c k < 2 ^ 8 by omega)]
    rfl
theorem wrap64_id {n : Int} (h0 : 0 ≤ n) (h1 : n < 4611686018427387904) : wrap64 n = n := by
  unfold wrap64
  omega
theorem nb_r (n : Int) (j : Nat) : 0 ≤ nb n j ∧ nb n j < 256 := ⟨Int.emod_nonneg _ (by decide), Int.emod_lt_of_pos _ (by decide)⟩
/-- what the bytes of a number say -/
theorem intv_nb {n : Int} (h0 : 0 ≤ n) (h1 : n < 4611686018427387904) {b : Nat → Int} (hb : ∀ j, j < 8 → b j = nb n j) : intv b = n := by
  obtain ⟨N, rfl⟩ := Int.eq_ofNat_of_zero_le h0
  have e : wv b 8 = wv (fun j => ((N / 2 ^ (8 * (7 - j)) % 256 : Nat) : Int)) 8 := by
    have : ∀ j, j < 8 → b j = ((N / 2 ^ (8 * (7 - j)) % 256 : Nat) : Int) := fun j hj => by
      rw [hb j hj]; unfold nb; simp
    simp only [wv]
    rw [this 0 (by decide), this 1 (by decide), this 2 (by decide), this 3 (by decide), this 4 (by decide), this 5 (by decide), this 6 (by decide), this 7 (by decide)]
  unfold intv
  rw [e, wv_n (c := fun j => N / 2 ^ (8 * (7 - j)) % 256) (fun _ => rfl) (fun j => Nat.mod_lt _ (by decide)) 8 (Nat.le_refl _)]
  have hw : wvN (fun j => N / 2 ^ (8 * (7 - j)) % 256) 8 = N := by
    simp only [wvN, Nat.reduceSub, Nat.reduceMul, Nat.reducePow]
    omega
  rw [hw]
  exact wrap64_id h0 h1
theorem tx_n (r h q : Int) (S : Nat → Int) (k j : Nat) (hk : k < 3) (hj : j < 8) : txI r h q S (1 + (8 * k + j)) = nb (pick3 r h q k) j := by
  rw [← num3_at r h q k j hk hj]
  unfold txI Sh.catI Sh.catI
  rw [if_neg (by omega), if_pos (by show 1 + (8 * k + j) - 1 < 24; omega), show 1 + (8 * k + j) - 1 = 8 * k + j by omega]
theorem tx_s (r h q : Int) (S : Nat → Int) (j : Nat) (hj : j < 64) : txI r h q S (25 + j) = S j := by
  unfold txI Sh.catI Sh.catI Sh.catI
  rw [if_neg (by omega), if_neg (by show ¬ 25 + j - 1 < 24; omega), if_pos (by show 25 + j - 1 - 24 < 64; omega), show 25 + j - 1 - 24 = j by omega]
theorem rp_t (r h q : Int) (S G : Nat → Int) (j : Nat) (hj : j < 89) : rpI r h q S G j = txI r h q S j := by
  unfold rpI Sh.catI
  rw [if_pos hj]
theorem rp_g (r h q : Int) (S G : Nat → Int) (j : Nat) (hj : j < 64) : rpI r h q S G (89 + j) = G j := by
  unfold rpI Sh.catI Sh.catI
  rw [if_neg (by omega), if_pos (by show 89 + j - 89 < 64; omega), show 89 + j - 89 = j by omega]
theorem sh_bd {r h q : Int} {n : Nat} (e : shT r h q n = true) : (0 ≤ r ∧ r < 4611686018427387904) ∧ (0 ≤ h ∧ h < 4611686018427387904) ∧ (0 ≤ q ∧ q < 4611686018427387904) := by
  have := shT_true e
  omega
/-- the numbers of a text -/
theorem tx_get {r h q : Int} {n : Nat} (e : shT r h q n = true) {S b : Nat → Int} (hb : ∀ j, j < 89 → b j = txI r h q S j) : getR b = r ∧ getH b = h ∧ getQ b = q := by
  obtain ⟨h1, h2, h3⟩ := sh_bd e
  refine ⟨intv_nb h1.1 h1.2 fun j hj => ?_, intv_nb h2.1 h2.2 fun j hj => ?_, intv_nb h3.1 h3.2 fun j hj => ?_⟩
  · show b (1 + j) = _
    rw [hb _ (by omega), show 1 + j = 1 + (8 * 0 + j) by omega, tx_n _ _ _ _ 0 j (by decide) hj]
    rfl
  · show b (9 + j) = _
    rw [hb _ (by omega), show 9 + j = 1 + (8 * 1 + j) by omega, tx_n _ _ _ _ 1 j (by decide) hj]
    rfl
  · show b (17 + j) = _
    rw [hb _ (by omega), show 17 + j = 1 + (8 * 2 + j) by omega, tx_n _ _ _ _ 2 j (by decide) hj]
    rfl
/-- what is got of a root's bytes -/
theorem rp_get {r h q : Int} {n : Nat} (e : shT r h q n = true) (S G : Nat → Int) : rpI r h q S G 0 = 2 ∧ getR (rpI r h q S G) = r ∧ getH (rpI r h q S G) = h ∧ getQ (rpI r h q S G) = q ∧ (∀ j, j < 64 → rpI r h q S G (25 + j) = S j) ∧ ∀ j, j < 64 → rpI r h q S G (89 + j) = G j := by
  have h1 := tx_get e (b := rpI r h q S G) (S := S) (fun j hj => rp_t r h q S G j hj)
  exact ⟨rfl, h1.1, h1.2.1, h1.2.2, fun j hj => by rw [rp_t _ _ _ _ _ _ (by omega), tx_s _ _ _ _ _ hj], fun j hj => rp_g _ _ _ _ _ j hj⟩
theorem rp_byt {r h q : Int} {S G : Nat → Int} (hS : Sc.Byt S) (hG : Sc.Byt G) : Sc.Byt (rpI r h q S G) := Sh.catI_r [(89, txI r h q S), (64, G)] ⟨fun j _ => Sh.catI_r [(1, fun _ => 2), (24, num3 r h q), (64, S)] ⟨fun _ _ => (by decide : (0 : Int) ≤ 2 ∧ (2 : Int) < 256), fun _ _ => nb_r _ _, fun j _ => hS j, trivial⟩ j, fun j _ => hG j, trivial⟩
end Go.Proofs.YtgjffaoggjlamaaGreatDoor

namespace Go.Proofs.YtgjffaoggjlamaaGreatDoor
open Go Go.RowKit
set_option maxRecDepth 20000 in
set_option maxHeartbeats 8000000 in
theorem sameRoot_c (r h q : Int) (p2 : Option Addr) (n2 c2 : Nat) (p3 : Option Addr) (n3 c3 : Nat) (rb hb' qb : Int) (pb2 : Option Addr) (nb2 cb2 : Nat) (pb3 : Option Addr) (nb3 cb3 : Nat) (vs ss vsb ssb : Nat → Int) (hn2 : n2 ≤ 1000000) (hn3 : n3 ≤ 1000000) (hnb2 : nb2 ≤ 1000000) (hnb3 : nb3 ≤ 1000000) (w : World) (hV : BAt w p2 n2 vs) (hS : BAt w p3 n3 ss) (hVb : BAt w pb2 nb2 vsb) (hSb : BAt w pb3 nb3 ssb) :
    Calls Tryz.prog 29 #[.agg #[.int .i64 r, .int .i64 h, .int .i64 q, .slice p2 n2 c2, .slice p3 n3 c3], .agg #[.int .i64 rb, .int .i64 hb', .int .i64 qb, .slice pb2 nb2 cb2, .slice pb3 nb3 cb3]] w fun e w' => e = .returned (.bool (decide (r = rb) && (decide (h = hb') && (decide (q = qb) && (eqB n2 vs nb2 vsb && eqB n3 ss nb3 ssb))))) ∧ Below w.heap.size w w' := by
  have cv := fun w' hb => sameB_c p2 pb2 n2 c2 nb2 cb2 vs vsb hn2 hnb2 w' (hV.below (w := w) (w' := w') hb) (hVb.below hb)
  have csg := fun w' hb => sameB_c p3 pb3 n3 c3 nb3 cb3 ss ssb hn3 hnb3 w' (hS.below (w := w) (w' := w') hb) (hSb.below hb)
  obtain ⟨E, hE⟩ : ∃ E, E = (decide (r = rb) && (decide (h = hb') && (decide (q = qb) && (eqB n2 vs nb2 vsb && eqB n3 ss nb3 ssb)))) := ⟨_, rfl⟩
  rw [← hE]
  generalize eqB n2 vs nb2 vsb = e2 at *
  generalize eqB n3 ss nb3 ssb = e3 at *
  replace cv := Lib.hid cv
  replace csg := Lib.hid csg
  clear hV hS hVb hSb hn2 hn3 hnb2 hnb3
  go_enter Tryz.func29, Tryz.ntmps29
  by_cases h1 : r = rb
  · rw [decide_eq_true h1, Bool.true_and] at hE
    subst h1
    by_cases h2 : h = hb'
    · rw [decide_eq_true h2, Bool.true_and] at hE
      subst h2
      by_cases h3 : q = qb
      · rw [decide_eq_true h3, Bool.true_and] at hE
        subst h3
        replace hE := Lib.hid hE
        go_wp2_with fail
        refine calls_at (fun W0 hW => ?_)
        have hA : Blk W0 w.heap.size 28 #[.int .i64 r, .int .i64 h, .int .i64 q, .slice p2 n2 c2, .slice p3 n3 c3] := by rw [hW]; exact (Blk.new _ _ _).alloc _
        have hB : Blk W0 (w.heap.size + 1) 28 #[.int .i64 r, .int .i64 h, .int .i64 q, .slice pb2 nb2 cb2, .slice pb3 nb3 cb3] := by rw [hW]; exact blk_at (by simp) (Blk.new _ _ _)
        have hb0 : Below w.heap.size w W0 := by rw [hW]; go_grown
        clear hW
        refine (cv.out _ hb0).mono ?_
        rintro e w1 ⟨rfl, hb⟩
        replace hA := hA.below hb
        replace hB := hB.below hb
        replace hb0 := hb0.trans (hb.mono hb0.size)
        clear hb cv
        obtain ⟨y0, y1, y2, y3, y4⟩ := blk5v hA
        obtain ⟨z0, z1, z2, z3, z4⟩ := blk5v hB
        cases e2
        · rw [Bool.false_and] at hE
          go_wp2
          go_returns
          exact ⟨by rw [hE.out]; rfl, hb0⟩
        · rw [Bool.true_and] at hE
          go_wp2_with fail
          clear y0 y1 y2 y3 y4 z0 z1 z2 z3 z4
          refine (csg.out _ hb0).mono ?_
          rintro e w2 ⟨rfl, hb⟩
          replace hb0 := hb0.trans (hb.mono hb0.size)
          clear hb csg
          cases e3
          · go_wp2
            go_returns
            exact ⟨by rw [hE.out]; rfl, hb0⟩
          · go_wp2
            go_returns
            exact ⟨by rw [hE.out]; rfl, hb0⟩
      · rw [decide_eq_false h3, Bool.false_and] at hE
        replace hE := Lib.hid hE
        have hb0 := Lib.hid (show Below w.heap.size w ((w.alloc (.cells #[.int .i64 r, .int .i64 h, .int .i64 q, .slice p2 n2 c2, .slice p3 n3 c3] 28)).alloc (.cells #[.int .i64 r, .int .i64 h, .int .i64 qb, .slice pb2 nb2 cb2, .slice pb3 nb3 cb3] 28)) by go_grown)
        go_wp2
        go_returns
        exact ⟨by rw [hE.out]; rfl, hb0.out⟩
    · rw [decide_eq_false h2, Bool.false_and] at hE
      replace hE := Lib.hid hE
      have hb0 := Lib.hid (show Below w.heap.size w ((w.alloc (.cells #[.int .i64 r, .int .i64 h, .int .i64 q, .slice p2 n2 c2, .slice p3 n3 c3] 28)).alloc (.cells #[.int .i64 r, .int .i64 hb', .int .i64 qb, .slice pb2 nb2 cb2, .slice pb3 nb3 cb3] 28)) by go_grown)
      go_wp2
      go_returns
      exact ⟨by rw [hE.out]; rfl, hb0.out⟩
  · rw [decide_eq_false h1, Bool.false_and] at hE
    replace hE := Lib.hid hE
    have hb0 := Lib.hid (show Below w.heap.size w ((w.alloc (.cells #[.int .i64 r, .int .i64 h, .int .i64 q, .slice p2 n2 c2, .slice p3 n3 c3] 28)).alloc (.cells #[.int .i64 rb, .int .i64 hb', .int .i64 qb, .slice pb2 nb2 cb2, .slice pb3 nb3 cb3] 28)) by go_grown)
    go_wp2
    go_returns
    exact ⟨by rw [hE.out]; rfl, hb0.out⟩
end Go.Proofs.YtgjffaoggjlamaaGreatDoor

namespace Go.Proofs.YtgjffaoggjlamaaGreatDoor
open Go.ChangeShapes Go.WideShapes Go.ChangeAt Go.WideMaps Go.WideElems Go.RowKit
section
variable {H : Type} {enc : TypeId × Value → H} {W : World} {base : Nat} {sp : Nat → Bool}
end
theorem BAt.bx {w : World} {p : Option Addr} {n : Nat} {b : Nat → Int} (h : BAt w p n b) : BX [] w p n b := fun h0 => by
  obtain ⟨g, o, e, hg, hc⟩ := h h0
  exact ⟨g, o, e, hg, by simp, hc⟩
end Go.Proofs.YtgjffaoggjlamaaGreatDoor

namespace Go.Proofs.YtgjffaoggjlamaaGreatDoor
open Go Go.RowKit
theorem eqB_same (n : Nat) (f : Nat → Int) : eqB n f n f = true := decide_eq_true ⟨rfl, fun _ _ => rfl⟩
theorem sameRoot_t (r h q : Int) (p2 : Option Addr) (n2 c2 : Nat) (p3 : Option Addr) (n3 c3 : Nat) (pb2 : Option Addr) (cb2 : Nat) (pb3 : Option Addr) (cb3 : Nat) (vs ss : Nat → Int) (hn2 : n2 ≤ 1000000) (hn3 : n3 ≤ 1000000) (w : World) (hV : BAt w p2 n2 vs) (hS : BAt w p3 n3 ss) (hVb : BAt w pb2 n2 vs) (hSb : BAt w pb3 n3 ss) :
    Calls Tryz.prog 29 #[.agg #[.int .i64 r, .int .i64 h, .int .i64 q, .slice p2 n2 c2, .slice p3 n3 c3], .agg #[.int .i64 r, .int .i64 h, .int .i64 q, .slice pb2 n2 cb2, .slice pb3 n3 cb3]] w (PostV (.bool true) w) :=
  (sameRoot_c r h q p2 n2 c2 p3 n3 c3 r h q pb2 n2 cb2 pb3 n3 cb3 vs ss vs ss hn2 hn3 hn2 hn3 w hV hS hVb hSb).mono fun e w' k => ⟨by rw [k.1, eqB_same, eqB_same]; simp, k.2⟩
end Go.Proofs.YtgjffaoggjlamaaGreatDoor
