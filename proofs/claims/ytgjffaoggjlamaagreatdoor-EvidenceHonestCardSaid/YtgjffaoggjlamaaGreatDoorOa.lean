/- root: Check of what is no root. root: Check of a root whose signature fits. law15: of, great. root, plain: a root's text and bytes tell it. SameRoot. An argument that is a root, opened. root: Get and Put of anything; there and back. -/
import Derived.Test.YtgjffaoggjlamaaGreatDoorNc
import Derived.Test.YtgjffaoggjlamaaGreatDoorNb
import Derived.Test.YtgjffaoggjlamaaGreatDoorCr
import Derived.Test.YtgjffaoggjlamaaGreatDoorCv
import Derived.Test.YtgjffaoggjlamaaGreatDoorCc
namespace Go.Proofs.YtgjffaoggjlamaaGreatDoor
open Go Go.RowKit
theorem Check_shape (pk : Option Addr) (nk ck : Nat) (r s q : Int) (p1 : Option Addr) (n1 c1 : Nat) (p2 : Option Addr) (n2 c2 : Nat) (hn : (shT r s q n1 && decide (n2 = 64)) = false) (w : World) :
    Calls Tryz.prog 17 #[.slice pk nk ck, .agg #[.int .i64 r, .int .i64 s, .int .i64 q, .slice p1 n1 c1, .slice p2 n2 c2]] w (PostV (.int .i64 4) w) :=
  Check_err 4 pk nk ck r s q p1 n1 c1 p2 n2 c2 w (fun gr gk w1 _ hB _ => check_x1 gr gk r s q p1 n1 c1 p2 n2 c2 hn w1 hB)
theorem Check_len (pk : Option Addr) (nk ck : Nat) (hnk : ¬ nk = 32) (r s q : Int) (p1 : Option Addr) (c1 : Nat) (p2 : Option Addr) (c2 : Nat) (S : Nat → Int) (hyes : shT r s q 64 = true) (hc1 : 64 ≤ c1) (w : World) (hX : BX [] w p1 64 S) :
    Calls Tryz.prog 17 #[.slice pk nk ck, .agg #[.int .i64 r, .int .i64 s, .int .i64 q, .slice p1 64 c1, .slice p2 64 c2]] w (PostV (.int .i64 20) w) :=
  Check_err 20 pk nk ck r s q p1 64 c1 p2 64 c2 w (fun gr gk w1 hb0 hB hK => check_x2 gr gk r s q p1 c1 p2 c2 pk nk ck S hyes hc1 w1 hB hK (hX.below hb0) (fun _ _ _ _ _ => verify_x1 pk p2 nk ck 64 c2 _ hnk _))
end Go.Proofs.YtgjffaoggjlamaaGreatDoor

namespace Go.Proofs.YtgjffaoggjlamaaGreatDoor
open Go Go.RowKit
set_option maxRecDepth 20000 in
theorem Check_true (g1 o1 ck g o d : Nat) (r s q : Int) (p1 : Option Addr) (c1 : Nat) (S b G : Nat → Int) (hyes : shT r s q 64 = true) (hc1 : 64 ≤ c1) (hck : 32 ≤ ck) (hd : 64 ≤ d) (hb : Sc.Byt b) (hG : Sc.Byt G) (hSr : ∀ j, j < 64 → 0 ≤ S j ∧ S j < 256) (hv : Sh.verI b G [(89, txI r s q S)] = true) (w : World) (hg1 : g1 < w.heap.size) (hk : ∀ j, j < 32 → w.cell? ⟨g1, o1 + j, none⟩ = some (.int .u8 (b j))) (hg : g < w.heap.size) (hs : ∀ j, j < 64 → w.cell? ⟨g, o + j, none⟩ = some (.int .u8 (G j))) (hX : BX [] w p1 64 S) (hSh : ShP w) (hCv : CvP w) :
    Calls Tryz.prog 17 #[.slice (some ⟨g1, o1, none⟩) 32 ck, .agg #[.int .i64 r, .int .i64 s, .int .i64 q, .slice p1 64 c1, .slice (some ⟨g, o, none⟩) 64 d]] w (PostV (.int .i64 0) w) := by
  have lB := hSh.lt
  have lC := hCv.lt
  obtain ⟨a1, a2, a3, a4, a5, a6, _⟩ := shT_true hyes
  have htr : ∀ j, j < 89 → 0 ≤ txI r s q S j ∧ txI r s q S j < 256 := fun j _ => Sh.catI_r [(1, fun _ => 2), (24, num3 r s q), (64, S)] ⟨fun j _ => (show (0 : Int) ≤ 2 ∧ (2 : Int) < 256 by decide), fun j _ => ⟨Int.emod_nonneg _ (by decide), Int.emod_lt_of_pos _ (by decide)⟩, hSr, trivial⟩ j
  refine Check_ok _ _ _ r s q p1 64 c1 _ 64 d w (fun gr gk w1 hb0 hB hK => ?_)
  refine check_c gr gk r s q p1 c1 _ d _ 32 ck S hyes hc1 w1 hB hK (hX.below hb0) (fun g8 c8 w2 hb1 hR => ?_)
  have ha : Below w2.heap.size w2 (w2.alloc (.cells #[.slice (some ⟨g8, 0, none⟩) 89 c8] 26)) := (Below.refl _ _).alloc (Nat.le_refl _) _
  have hb2 := (hb0.trans (hb1.mono hb0.size)).trans (ha.mono (Nat.le_trans hb0.size hb1.size))
  rw [← hv]
  exact Verify_c g1 o1 ck g o d b G _ [.slice (some ⟨g8, 0, none⟩) 89 c8] [(89, txI r s q S)] _ hck hd hb hG (Nat.lt_of_lt_of_le hg1 hb2.size) (fun j hj => (hb2.cell (p := ⟨g1, o1 + j, none⟩) hg1).trans (hk j hj)) (Nat.lt_of_lt_of_le hg hb2.size) (fun j hj => (hb2.cell (p := ⟨g, o + j, none⟩) hg).trans (hs j hj)) (hCv.below hb2 lC) (parts_new w2 [.slice (some ⟨g8, 0, none⟩) 89 c8] (by show 0 < 1; decide) _) ⟨(hR.below ha).pv, trivial⟩ ⟨htr, trivial⟩ (by show 89 + 0 ≤ 1000000; decide) (by show 1 ≤ 10000; decide) (hSh.below hb2 lB) (by have := hb2.size; omega)
end Go.Proofs.YtgjffaoggjlamaaGreatDoor

namespace Go.Proofs.YtgjffaoggjlamaaGreatDoor
open Go Go.RowKit
def PostOf (r s q : Int) (w : World) (e : Ending) (w' : World) : Prop := ∃ g, e = .returned (.agg #[.int .i64 r, .int .i64 s, .int .i64 q, .slice (some ⟨g, 0, none⟩) 64 64, .slice none 0 0]) ∧ w.heap.size ≤ g ∧ RowB w' g 64 64 (fun _ => 0) ∧ Below w.heap.size w w'
theorem row_zero (w : World) (k : Nat) (hk : k ≤ 1000) : RowB (w.alloc (.cells (List.replicate k (.int .u8 0)).toArray 5)) w.heap.size k k (fun _ => 0) := by
  refine ⟨(List.replicate k (.int .u8 0)).toArray, ?_, Nat.le_refl _, by unfold maxLen; omega, by simp, ?_⟩
  · unfold World.alloc
    simp
  · apply List.ext_getElem? 
    intro i
    by_cases hi : i < k
    · rw [cB_get k (fun _ => 0) i hi]
      simp [hi]
    · rw [List.getElem?_eq_none (by simp; omega), List.getElem?_eq_none (by rw [cB_len]; omega)]
set_option maxRecDepth 20000 in
set_option maxHeartbeats 1000000 in
theorem of15_c (r s q : Int) (w : World) : Calls Tryz.prog 74 #[.int .i64 r, .int .i64 s, .int .i64 q] w (PostOf r s q w) := by
  have hmk : ∀ w, (Instr.makeSlice 26 (.int .i64 64) (.int .i64 64)).run Tryz.prog w = .ok (.slice (some ⟨w.heap.size, 0, none⟩) 64 64) (w.alloc (.cells (List.replicate 64 (.int .u8 0)).toArray 5)) := fun _ => by kernel_rfl
  go_enter Tryz.func74, Tryz.ntmps74
  go_wp2
  go_returns
  have h := row_zero (w.alloc (.cells #[.int .i64 r, .int .i64 s, .int .i64 q, .slice (some ⟨w.heap.size + 1, 0, none⟩) 64 64, .slice none 0 0] 28)) 64 (by decide)
  rw [show (w.alloc (.cells #[.int .i64 r, .int .i64 s, .int .i64 q, .slice (some ⟨w.heap.size + 1, 0, none⟩) 64 64, .slice none 0 0] 28)).heap.size = w.heap.size + 1 by simp] at h
  exact ⟨w.heap.size + 1, rfl, by omega, h, by go_grown⟩
set_option maxRecDepth 20000 in
set_option maxHeartbeats 1000000 in
theorem great15_c (r s q : Int) (p1 : Option Addr) (n1 c1 : Nat) (p2 : Option Addr) (n2 c2 : Nat) (w : World) : Calls Tryz.prog 24 #[.agg #[.int .i64 r, .int .i64 s, .int .i64 q, .slice p1 n1 c1, .slice p2 n2 c2]] w (PostV (.bool (decide (1000 < n1) || decide (1000 < n2))) w) := by
  have hb0 := Lib.hid (show Below w.heap.size w (w.alloc (.cells #[.int .i64 r, .int .i64 s, .int .i64 q, .slice p1 n1 c1, .slice p2 n2 c2] 28)) from (Below.refl _ _).alloc (Nat.le_refl _) _)
  go_enter Tryz.func24, Tryz.ntmps24
  by_cases h1 : 1000 < n1
  · have i1 : (1000 : Int) < (n1 : Int) := by omega
    rw [decide_eq_true h1, Bool.true_or]
    clear h1
    go_wp2
    go_returns
    exact ⟨rfl, hb0.out⟩
  · have i1 : ¬ (1000 : Int) < (n1 : Int) := by omega
    rw [decide_eq_false h1, Bool.false_or]
    clear h1
    by_cases h2 : 1000 < n2
    · have i2 : (1000 : Int) < (n2 : Int) := by omega
      rw [decide_eq_true h2]
      clear h2
      go_wp2
      go_returns
      exact ⟨rfl, hb0.out⟩
    · have i2 : ¬ (1000 : Int) < (n2 : Int) := by omega
      rw [decide_eq_false h2]
      clear h2
      go_wp2
      go_returns
      exact ⟨rfl, hb0.out⟩
end Go.Proofs.YtgjffaoggjlamaaGreatDoor

namespace Go.Proofs.YtgjffaoggjlamaaGreatDoor
open Go Go.RowKit
def wvN (c : Nat → Nat) : Nat → Nat
  | 0 => 0
  | k + 1 => 256 * wvN c k + c k
theorem wvN_lt {c : Nat → Nat} (hc : ∀ j, c j < 256) : ∀ k, wvN c k < 256 ^ k
  | 0 => Nat.one_pos
  | k + 1 => by
    have h := wvN_lt hc k
    have h2 := hc k
    show 256 * wvN c k + c k < 256 ^ k * 256
    generalize 256 ^ k = p at *
    omega
theorem wv_n {b : Nat → Int} {c : Nat → Nat} (hb : ∀ j, b j = (c j : Int)) (hc : ∀ j, c j < 256) : ∀ k, k ≤ 8 → wv b k = ((wvN c k : Nat) : Int)
  | 0, _ => rfl
  | k + 1, hk => by
    have ih := wv_n hb hc k (by omega)
    have h1 := wvN_lt hc k
    have h2 := hc k
    have hp : 256 ^ k ≤ 256 ^ 7 := Nat.pow_le_pow_right (by decide) (by omega)
    have h3 : wvN c k < 72057594037927936 := Nat.lt_of_lt_of_le h1 hp
    show bits .or .u64 (IntKind.u64.wrap (wv b k * 256)) (b k) = _
    rw [ih, hb k, show ((wvN c k : Nat) : Int) * 256 = ((wvN c k * 256 : Nat) : Int) by simp, Sh.wrap_n, Sh.or_n]
    unfold Sh.orN
    rw [Nat.mod_mod, Nat.mod_eq_of_lt (show wvN c k * 256 < 18446744073709551616 by omega), Nat.mod_eq_of_lt (show c k < 18446744073709551616 by omega), Nat.mul_comm, show 256 * wvN c k = 2 ^ 8 * wvN c k from rfl, ← Nat.two_pow_add_eq_or_of_lt (show c k < 2 ^ 8 by omega)]
    rfl
theorem intv_pos {b : Nat → Int} (hb : Sc.Byt b) : ∃ c : Nat → Nat, (∀ j, b j = (c j : Int)) ∧ (∀ j, c j < 256) ∧ intv b = wrap64 ((wvN c 8 : Nat) : Int) := by
  have h : ∀ j, b j = ((b j).toNat : Int) := fun j => by have := hb j; omega
  have h2 : ∀ j, (b j).toNat < 256 := fun j => by have := hb j; omega
  exact ⟨fun j => (b j).toNat, h, h2, by unfold intv; rw [wv_n h h2 8 (Nat.le_refl _)]⟩
theorem wrap64_lo {n : Nat} (h : n < 18446744073709551616) (h0 : 0 ≤ wrap64 (n : Int)) : wrap64 (n : Int) = (n : Int) := by
  unfold wrap64 at h0 ⊢
  omega
theorem wrap64_id {n : Int} (h0 : 0 ≤ n) (h1 : n < 4611686018427387904) : wrap64 n = n := by
  unfold wrap64
  omega
/-- the bytes of what bytes say -/
theorem nb_intv {b : Nat → Int} (hb : Sc.Byt b) (h0 : 0 ≤ intv b) (j : Nat) (hj : j < 8) : nb (intv b) j = b j := by
  obtain ⟨c, h1, h2, h3⟩ := intv_pos hb
  rw [h3] at h0 ⊢
  rw [wrap64_lo (wvN_lt h2 8) h0, h1 j]
  have q0 := h2 0; have q1 := h2 1; have q2 := h2 2; have q3 := h2 3; have q4 := h2 4; have q5 := h2 5; have q6 := h2 6; have q7 := h2 7
  have : j = 0 ∨ j = 1 ∨ j = 2 ∨ j = 3 ∨ j = 4 ∨ j = 5 ∨ j = 6 ∨ j = 7 := by omega
  unfold nb
  simp only [wvN]
  rcases this with rfl | rfl | rfl | rfl | rfl | rfl | rfl | rfl <;> simp only [Nat.reduceSub, Nat.reduceMul, Int.reducePow] <;> omega
theorem nb_r (n : Int) (j : Nat) : 0 ≤ nb n j ∧ nb n j < 256 := ⟨Int.emod_nonneg _ (by decide), Int.emod_lt_of_pos _ (by decide)⟩
/-- what the bytes of a number say -/
theorem intv_nb {n : Int} (h0 : 0 ≤ n) (h1 : n < 4611686018427387904) {b : Nat → Int} (hb : ∀ j, j < 8 → b j = nb n j) : intv b = n := by
  obtain ⟨N, rfl⟩ := Int.eq_ofNat_of_zero_le h0
  have e : wv b 8 = wv (fun j => ((N / 2 ^ (8 * (7 - j)) % 256 : Nat) : Int)) 8 := by
    have : ∀ j, j < 8 → b j = ((N / 2 ^ (8 * (7 - j)) % 256 : Nat) : Int) := fun j hj => by
      rw [hb j hj]; unfold nb; simp
    simp only [wv]
    rw [this 0 (by decide), this 1 (by decide), this 2 (by decide), this 3 (by decide), this 4 (by decide), this 5 (by decide), this 6 (by decide), this 7 (by decide)]
  unfold intv
  rw [e, wv_n (c := fun j => N / 2 ^ (8 * (7 - j)) % 256) (fun _ => rfl) (fun j => Nat.mod_lt _ (by decide)) 8 (Nat.le_refl _)]
  have hw : wvN (fun j => N / 2 ^ (8 * (7 - j)) % 256) 8 = N := by
    simp only [wvN, Nat.reduceSub, Nat.reduceMul, Nat.reducePow]
    omega
  rw [hw]
  exact wrap64_id h0 h1
theorem intv_congr {b c : Nat → Int} (h : ∀ j, j < 8 → b j = c j) : intv b = intv c := by
  unfold intv
  simp only [wv]
  rw [h 0 (by decide), h 1 (by decide), h 2 (by decide), h 3 (by decide), h 4 (by decide), h 5 (by decide), h 6 (by decide), h 7 (by decide)]
/-- where a text's parts lie -/
theorem tx_0 (r h q : Int) (S : Nat → Int) : txI r h q S 0 = 2 := rfl
theorem tx_n (r h q : Int) (S : Nat → Int) (k j : Nat) (hk : k < 3) (hj : j < 8) : txI r h q S (1 + (8 * k + j)) = nb (pick3 r h q k) j := by
  rw [← num3_at r h q k j hk hj]
  unfold txI Sh.catI Sh.catI
  rw [if_neg (by omega), if_pos (by show 1 + (8 * k + j) - 1 < 24; omega), show 1 + (8 * k + j) - 1 = 8 * k + j by omega]
theorem pick3_0 (r h q : Int) : pick3 r h q 0 = r := rfl
theorem pick3_1 (r h q : Int) : pick3 r h q 1 = h := rfl
theorem pick3_2 (r h q : Int) : pick3 r h q 2 = q := rfl
theorem tx_s (r h q : Int) (S : Nat → Int) (j : Nat) (hj : j < 64) : txI r h q S (25 + j) = S j := by
  unfold txI Sh.catI Sh.catI Sh.catI
  rw [if_neg (by omega), if_neg (by show ¬ 25 + j - 1 < 24; omega), if_pos (by show 25 + j - 1 - 24 < 64; omega), show 25 + j - 1 - 24 = j by omega]
theorem rp_t (r h q : Int) (S G : Nat → Int) (j : Nat) (hj : j < 89) : rpI r h q S G j = txI r h q S j := by
  unfold rpI Sh.catI
  rw [if_pos hj]
theorem rp_g (r h q : Int) (S G : Nat → Int) (j : Nat) (hj : j < 64) : rpI r h q S G (89 + j) = G j := by
  unfold rpI Sh.catI Sh.catI
  rw [if_neg (by omega), if_pos (by show 89 + j - 89 < 64; omega), show 89 + j - 89 = j by omega]
theorem sh_bd {r h q : Int} {n : Nat} (e : shT r h q n = true) : (0 ≤ r ∧ r < 4611686018427387904) ∧ (0 ≤ h ∧ h < 4611686018427387904) ∧ (0 ≤ q ∧ q < 4611686018427387904) := by
  have := shT_true e
  omega
/-- the numbers of a text -/
theorem tx_get {r h q : Int} {n : Nat} (e : shT r h q n = true) {S b : Nat → Int} (hb : ∀ j, j < 89 → b j = txI r h q S j) : getR b = r ∧ getH b = h ∧ getQ b = q := by
  obtain ⟨h1, h2, h3⟩ := sh_bd e
  refine ⟨intv_nb h1.1 h1.2 fun j hj => ?_, intv_nb h2.1 h2.2 fun j hj => ?_, intv_nb h3.1 h3.2 fun j hj => ?_⟩
  · show b (1 + j) = _
    rw [hb _ (by omega), show 1 + j = 1 + (8 * 0 + j) by omega, tx_n _ _ _ _ 0 j (by decide) hj]
    rfl
  · show b (9 + j) = _
    rw [hb _ (by omega), show 9 + j = 1 + (8 * 1 + j) by omega, tx_n _ _ _ _ 1 j (by decide) hj]
    rfl
  · show b (17 + j) = _
    rw [hb _ (by omega), show 17 + j = 1 + (8 * 2 + j) by omega, tx_n _ _ _ _ 2 j (by decide) hj]
    rfl
/-- two roots of right shape have one text just if they are the same, but for Sig -/
theorem tx_eq {r h q r' h' q' : Int} {n n' : Nat} (e : shT r h q n = true) (e' : shT r' h' q' n' = true) (S S' : Nat → Int) : eqB 89 (txI r h q S) 89 (txI r' h' q' S') = (decide (r = r') && (decide (h = h') && (decide (q = q') && (eqB 64 S 64 S' && true)))) := by
  rw [Bool.and_true, Bool.eq_iff_iff]
  simp only [Bool.and_eq_true, decide_eq_true_eq, eqB]
  constructor
  · rintro ⟨-, hk⟩
    have h1 := tx_get e (b := txI r h q S) (fun _ _ => rfl)
    have h2 := tx_get e' (b := txI r h q S) hk
    refine ⟨h1.1.symm.trans h2.1, h1.2.1.symm.trans h2.2.1, h1.2.2.symm.trans h2.2.2, trivial, fun j hj => ?_⟩
    have := hk (25 + j) (by omega)
    rwa [tx_s _ _ _ _ _ hj, tx_s _ _ _ _ _ hj] at this
  · rintro ⟨rfl, rfl, rfl, -, hs⟩
    refine ⟨trivial, fun j hj => ?_⟩
    by_cases hj2 : j < 25
    · unfold txI Sh.catI Sh.catI Sh.catI
      by_cases h1 : j < 1
      · rw [if_pos h1, if_pos h1]
      · rw [if_neg h1, if_neg h1, if_pos (by show j - 1 < 24; omega), if_pos (by show j - 1 < 24; omega)]
    · obtain ⟨k, rfl⟩ : ∃ k, j = 25 + k := ⟨j - 25, by omega⟩
      rw [tx_s _ _ _ _ _ (by omega), tx_s _ _ _ _ _ (by omega), hs k (by omega)]
/-- what is got of a root's bytes -/
theorem rp_get {r h q : Int} {n : Nat} (e : shT r h q n = true) (S G : Nat → Int) : rpI r h q S G 0 = 2 ∧ getR (rpI r h q S G) = r ∧ getH (rpI r h q S G) = h ∧ getQ (rpI r h q S G) = q ∧ (∀ j, j < 64 → rpI r h q S G (25 + j) = S j) ∧ ∀ j, j < 64 → rpI r h q S G (89 + j) = G j := by
  have h1 := tx_get e (b := rpI r h q S G) (S := S) (fun j hj => rp_t r h q S G j hj)
  exact ⟨rfl, h1.1, h1.2.1, h1.2.2, fun j hj => by rw [rp_t _ _ _ _ _ _ (by omega), tx_s _ _ _ _ _ hj], fun j hj => rp_g _ _ _ _ _ j hj⟩
/-- what is got of bytes, put again -/
theorem get_rp {b : Nat → Int} (hr : Sc.Byt b) (h2 : b 0 = 2) {n : Nat} (e : shT (getR b) (getH b) (getQ b) n = true) (j : Nat) (hj : j < 153) : rpI (getR b) (getH b) (getQ b) (fun j => b (25 + j)) (fun j => b (89 + j)) j = b j := by
  have hs := shT_true e
  by_cases h1 : j < 89
  · rw [rp_t _ _ _ _ _ _ h1]
    by_cases h3 : j < 25
    · by_cases h4 : j = 0
      · subst h4
        rw [tx_0, h2]
      · obtain ⟨k, i, hk, hi, rfl⟩ : ∃ k i, k < 3 ∧ i < 8 ∧ j = 1 + (8 * k + i) := ⟨(j - 1) / 8, (j - 1) % 8, by omega, by omega, by omega⟩
        rw [tx_n _ _ _ _ k i hk hi]
        have : k = 0 ∨ k = 1 ∨ k = 2 := by omega
        rcases this with rfl | rfl | rfl
        · rw [pick3_0]
          unfold getR
          rw [nb_intv (fun j => hr (1 + j)) (by show 0 ≤ getR b; omega) i hi, show 1 + (8 * 0 + i) = 1 + i by omega]
        · rw [pick3_1]
          unfold getH
          rw [nb_intv (fun j => hr (9 + j)) (by show 0 ≤ getH b; omega) i hi, show 1 + (8 * 1 + i) = 9 + i by omega]
        · rw [pick3_2]
          unfold getQ
          rw [nb_intv (fun j => hr (17 + j)) (by show 0 ≤ getQ b; omega) i hi, show 1 + (8 * 2 + i) = 17 + i by omega]
    · obtain ⟨k, rfl⟩ : ∃ k, j = 25 + k := ⟨j - 25, by omega⟩
      rw [tx_s _ _ _ _ _ (by omega)]
  · obtain ⟨k, rfl⟩ : ∃ k, j = 89 + k := ⟨j - 89, by omega⟩
    rw [rp_g _ _ _ _ _ _ (by omega)]
theorem rp_byt {r h q : Int} {S G : Nat → Int} (hS : Sc.Byt S) (hG : Sc.Byt G) : Sc.Byt (rpI r h q S G) := Sh.catI_r [(89, txI r h q S), (64, G)] ⟨fun j _ => Sh.catI_r [(1, fun _ => 2), (24, num3 r h q), (64, S)] ⟨fun _ _ => (by decide : (0 : Int) ≤ 2 ∧ (2 : Int) < 256), fun _ _ => nb_r _ _, fun j _ => hS j, trivial⟩ j, fun j _ => hG j, trivial⟩
theorem tx_byt {r h q : Int} {S : Nat → Int} (hS : Sc.Byt S) : Sc.Byt (txI r h q S) := Sh.catI_r [(1, fun _ => 2), (24, num3 r h q), (64, S)] ⟨fun _ _ => (by decide : (0 : Int) ≤ 2 ∧ (2 : Int) < 256), fun _ _ => nb_r _ _, fun j _ => hS j, trivial⟩
end Go.Proofs.YtgjffaoggjlamaaGreatDoor

namespace Go.Proofs.YtgjffaoggjlamaaGreatDoor
open Go Go.RowKit
set_option maxRecDepth 20000 in
set_option maxHeartbeats 8000000 in
theorem sameRoot_c (r h q : Int) (p2 : Option Addr) (n2 c2 : Nat) (p3 : Option Addr) (n3 c3 : Nat) (rb hb' qb : Int) (pb2 : Option Addr) (nb2 cb2 : Nat) (pb3 : Option Addr) (nb3 cb3 : Nat) (vs ss vsb ssb : Nat → Int) (hn2 : n2 ≤ 1000000) (hn3 : n3 ≤ 1000000) (hnb2 : nb2 ≤ 1000000) (hnb3 : nb3 ≤ 1000000) (w : World) (hV : BAt w p2 n2 vs) (hS : BAt w p3 n3 ss) (hVb : BAt w pb2 nb2 vsb) (hSb : BAt w pb3 nb3 ssb) :
    Calls Tryz.prog 29 #[.agg #[.int .i64 r, .int .i64 h, .int .i64 q, .slice p2 n2 c2, .slice p3 n3 c3], .agg #[.int .i64 rb, .int .i64 hb', .int .i64 qb, .slice pb2 nb2 cb2, .slice pb3 nb3 cb3]] w fun e w' => e = .returned (.bool (decide (r = rb) && (decide (h = hb') && (decide (q = qb) && (eqB n2 vs nb2 vsb && eqB n3 ss nb3 ssb))))) ∧ Below w.heap.size w w' := by
  have cv := fun w' hb => sameB_c p2 pb2 n2 c2 nb2 cb2 vs vsb hn2 hnb2 w' (hV.below (w := w) (w' := w') hb) (hVb.below hb)
  have csg := fun w' hb => sameB_c p3 pb3 n3 c3 nb3 cb3 ss ssb hn3 hnb3 w' (hS.below (w := w) (w' := w') hb) (hSb.below hb)
  obtain ⟨E, hE⟩ : ∃ E, E = (decide (r = rb) && (decide (h = hb') && (decide (q = qb) && (eqB n2 vs nb2 vsb && eqB n3 ss nb3 ssb)))) := ⟨_, rfl⟩
  rw [← hE]
  generalize eqB n2 vs nb2 vsb = e2 at *
  generalize eqB n3 ss nb3 ssb = e3 at *
  replace cv := Lib.hid cv
  replace csg := Lib.hid csg
  clear hV hS hVb hSb hn2 hn3 hnb2 hnb3
  go_enter Tryz.func29, Tryz.ntmps29
  by_cases h1 : r = rb
  · rw [decide_eq_true h1, Bool.true_and] at hE
    subst h1
    by_cases h2 : h = hb'
    · rw [decide_eq_true h2, Bool.true_and] at hE
      subst h2
      by_cases h3 : q = qb
      · rw [decide_eq_true h3, Bool.true_and] at hE
        subst h3
        replace hE := Lib.hid hE
        go_wp2_with fail
        refine calls_at (fun W0 hW => ?_)
        have hA : Blk W0 w.heap.size 28 #[.int .i64 r, .int .i64 h, .int .i64 q, .slice p2 n2 c2, .slice p3 n3 c3] := by rw [hW]; exact (Blk.new _ _ _).alloc _
        have hB : Blk W0 (w.heap.size + 1) 28 #[.int .i64 r, .int .i64 h, .int .i64 q, .slice pb2 nb2 cb2, .slice pb3 nb3 cb3] := by rw [hW]; exact blk_at (by simp) (Blk.new _ _ _)
        have hb0 : Below w.heap.size w W0 := by rw [hW]; go_grown
        clear hW
        refine (cv.out _ hb0).mono ?_
        rintro e w1 ⟨rfl, hb⟩
        replace hA := hA.below hb
        replace hB := hB.below hb
        replace hb0 := hb0.trans (hb.mono hb0.size)
        clear hb cv
        obtain ⟨y0, y1, y2, y3, y4⟩ := blk5v hA
        obtain ⟨z0, z1, z2, z3, z4⟩ := blk5v hB
        cases e2
        · rw [Bool.false_and] at hE
          go_wp2
          go_returns
          exact ⟨by rw [hE.out]; rfl, hb0⟩
        · rw [Bool.true_and] at hE
          go_wp2_with fail
          clear y0 y1 y2 y3 y4 z0 z1 z2 z3 z4
          refine (csg.out _ hb0).mono ?_
          rintro e w2 ⟨rfl, hb⟩
          replace hb0 := hb0.trans (hb.mono hb0.size)
          clear hb csg
          cases e3
          · go_wp2
            go_returns
            exact ⟨by rw [hE.out]; rfl, hb0⟩
          · go_wp2
            go_returns
            exact ⟨by rw [hE.out]; rfl, hb0⟩
      · rw [decide_eq_false h3, Bool.false_and] at hE
        replace hE := Lib.hid hE
        have hb0 := Lib.hid (show Below w.heap.size w ((w.alloc (.cells #[.int .i64 r, .int .i64 h, .int .i64 q, .slice p2 n2 c2, .slice p3 n3 c3] 28)).alloc (.cells #[.int .i64 r, .int .i64 h, .int .i64 qb, .slice pb2 nb2 cb2, .slice pb3 nb3 cb3] 28)) by go_grown)
        go_wp2
        go_returns
        exact ⟨by rw [hE.out]; rfl, hb0.out⟩
    · rw [decide_eq_false h2, Bool.false_and] at hE
      replace hE := Lib.hid hE
      have hb0 := Lib.hid (show Below w.heap.size w ((w.alloc (.cells #[.int .i64 r, .int .i64 h, .int .i64 q, .slice p2 n2 c2, .slice p3 n3 c3] 28)).alloc (.cells #[.int .i64 r, .int .i64 hb', .int .i64 qb, .slice pb2 nb2 cb2, .slice pb3 nb3 cb3] 28)) by go_grown)
      go_wp2
      go_returns
      exact ⟨by rw [hE.out]; rfl, hb0.out⟩
  · rw [decide_eq_false h1, Bool.false_and] at hE
    replace hE := Lib.hid hE
    have hb0 := Lib.hid (show Below w.heap.size w ((w.alloc (.cells #[.int .i64 r, .int .i64 h, .int .i64 q, .slice p2 n2 c2, .slice p3 n3 c3] 28)).alloc (.cells #[.int .i64 rb, .int .i64 hb', .int .i64 qb, .slice pb2 nb2 cb2, .slice pb3 nb3 cb3] 28)) by go_grown)
    go_wp2
    go_returns
    exact ⟨by rw [hE.out]; rfl, hb0.out⟩
end Go.Proofs.YtgjffaoggjlamaaGreatDoor

namespace Go.Proofs.YtgjffaoggjlamaaGreatDoor
open Go.ChangeShapes Go.WideShapes Go.ChangeAt Go.WideMaps Go.WideElems Go.RowKit
section
variable {H : Type} {enc : TypeId × Value → H} {W : World} {base : Nat} {sp : Nat → Bool}
theorem list5 {α : Type} {cs : List α} (h : cs.length = 5) : ∃ a b c d e, cs = [a, b, c, d, e] := by
  match cs, h with
  | [a, b, c, d, e], _ => exact ⟨a, b, c, d, e, rfl⟩
set_option maxRecDepth 100000 in
/-- a field of bytes is opened -/
theorem open_bsf {fuel : Nat} {y : Value} {r : DataW H × List MemPlace} (hf : DataW.trod enc Tryz.prog W base sp true fuel 26 [y] = some r) :
    ∃ p n c b, y = .slice p n c ∧ (∀ j, 0 ≤ b j ∧ b j < 256) ∧ BAt W p n b ∧ n ≤ c := by
  rcases open_ints bs_underK u8_under u8_cells hf with ⟨hcs, hx⟩ | ⟨a, len', cap', zs, hcs, _, hl, hm, hz, hx, hcell, hwz⟩
  · simp at hcs
    subst hcs
    exact ⟨none, 0, 0, fun _ => 0, rfl, fun _ => ⟨Int.le_refl _, show (0 : Int) < 256 by decide⟩, fun h => absurd h (by decide), Nat.le_refl _⟩
  simp at hcs
  subst hcs
  have hlz : len' ≤ zs.length := by rw [hz]; split <;> omega
  refine ⟨some a, len', cap', fun j => zs.getD j 0, rfl, fun j => by
    have := range_u8 hwz j
    show 0 ≤ zs.getD j 0 ∧ zs.getD j 0 < 256
    rw [List.getD_eq_getElem?_getD]
    omega, fun hpos => ?_, hl⟩
  obtain ⟨ab, ao, spot⟩ := a
  have hc1 := hcell 0 (by omega)
  have hspot : spot = none := by simpa [Addr.add] using World.cell?_spot hc1
  subst hspot
  refine ⟨ab, ao, rfl, ?_, fun j hj => ?_⟩
  · rcases Nat.lt_or_ge ab W.heap.size with h | h
    · exact h
    rw [add_o] at hc1
    simp only [World.cell?, Array.getElem?_eq_none h] at hc1
    cases hc1
  have := hcell j (by omega)
  rwa [add_o] at this
set_option maxRecDepth 20000 in
theorem open_root {v : Value} {d : DataW H} {ps : List MemPlace} {rr : Reach} {b0 : Nat} (hval : Value.okWide Tryz.prog W rr b0 28 v) (h : DataW.Trod enc Tryz.prog W base sp true 28 v d ps) :
    ∃ r h q p2 n2 c2 p3 n3 c3 S G, v = .agg #[.int .i64 r, .int .i64 h, .int .i64 q, .slice p2 n2 c2, .slice p3 n3 c3] ∧ (∀ j, 0 ≤ S j ∧ S j < 256) ∧ BAt W p2 n2 S ∧ n2 ≤ c2 ∧ (∀ j, 0 ≤ G j ∧ G j < 256) ∧ BAt W p3 n3 G ∧ n3 ≤ c3 := by
  have int_under : Tryz.prog.underlying 3 = some (.int .i64) := by kernel_rfl
  obtain ⟨cs, rfl, hcs⟩ := okWide_struct Tryz.underlying28 hval
  obtain ⟨fuel, hf⟩ := h
  obtain ⟨xs, n, _, _, hl, hx, hfl⟩ := DataW.trod_struct Tryz.underlying28 hf
  have h5 : Tryz.prog.cellsOf 28 = 5 := by kernel_rfl
  rw [h5] at hl
  obtain ⟨a, b, c, e, f, hcs5⟩ := list5 hl
  rw [hcs5] at hfl
  have hget : ∀ i, i < 5 → ∃ y, xs[i]? = some y := fun i hi => ⟨xs[i]'(by rw [hx]; exact hi), List.getElem?_eq_getElem _⟩
  obtain ⟨y0, e0⟩ := hget 0 (by decide)
  obtain ⟨y1, e1⟩ := hget 1 (by decide)
  obtain ⟨y2, e2⟩ := hget 2 (by decide)
  obtain ⟨y3, e3⟩ := hget 3 (by decide)
  obtain ⟨y4, e4⟩ := hget 4 (by decide)
  have c3 : Tryz.prog.cellsOf 3 = 1 := by kernel_rfl
  have c23 : Tryz.prog.cellsOf 26 = 1 := by kernel_rfl
  have t0 : DataW.trod enc Tryz.prog W base sp true n 3 (List.take (Tryz.prog.cellsOf 3) (List.drop 0 [a, b, c, e, f])) = some y0 := (hfl 0 _ rfl).trans e0
  rw [c3] at t0
  change DataW.trod enc Tryz.prog W base sp true n 3 [a] = some y0 at t0
  have t1 : DataW.trod enc Tryz.prog W base sp true n 3 (List.take (Tryz.prog.cellsOf 3) (List.drop 1 [a, b, c, e, f])) = some y1 := (hfl 1 _ rfl).trans e1
  rw [c3] at t1
  change DataW.trod enc Tryz.prog W base sp true n 3 [b] = some y1 at t1
  have t2 : DataW.trod enc Tryz.prog W base sp true n 3 (List.take (Tryz.prog.cellsOf 3) (List.drop 2 [a, b, c, e, f])) = some y2 := (hfl 2 _ rfl).trans e2
  rw [c3] at t2
  change DataW.trod enc Tryz.prog W base sp true n 3 [c] = some y2 at t2
  have t5 : DataW.trod enc Tryz.prog W base sp true n 26 (List.take (Tryz.prog.cellsOf 26) (List.drop 3 [a, b, c, e, f])) = some y3 := (hfl 3 _ rfl).trans e3
  rw [c23] at t5
  change DataW.trod enc Tryz.prog W base sp true n 26 [e] = some y3 at t5
  have t6 : DataW.trod enc Tryz.prog W base sp true n 26 (List.take (Tryz.prog.cellsOf 26) (List.drop 4 [a, b, c, e, f])) = some y4 := (hfl 4 _ rfl).trans e4
  rw [c23] at t6
  change DataW.trod enc Tryz.prog W base sp true n 26 [f] = some y4 at t6
  obtain ⟨r, hr, _⟩ := DataW.trod_int int_under t0
  obtain ⟨h, hh, _⟩ := DataW.trod_int int_under t1
  obtain ⟨q, hq, _⟩ := DataW.trod_int int_under t2
  obtain ⟨p2, n2, c2, S, hv, hSr, hV, hn2⟩ := open_bsf t5
  obtain ⟨p3, n3, c3', G, hs, hGr, hS, hn3⟩ := open_bsf t6
  simp only [List.cons.injEq, and_true] at hr hh hq
  subst hr hh hq hv hs
  refine ⟨r, h, q, p2, n2, c2, p3, n3, c3', S, G, ?_, hSr, hV, hn2, hGr, hS, hn3⟩
  rw [show cs = #[.int .i64 r, .int .i64 h, .int .i64 q, .slice p2 n2 c2, .slice p3 n3 c3'] from by
    have : cs.toList = _ := hcs5
    exact Array.toList_inj.1 this]
end
theorem BAt.bx {w : World} {p : Option Addr} {n : Nat} {b : Nat → Int} (h : BAt w p n b) : BX [] w p n b := fun h0 => by
  obtain ⟨g, o, e, hg, hc⟩ := h h0
  exact ⟨g, o, e, hg, by simp, hc⟩
end Go.Proofs.YtgjffaoggjlamaaGreatDoor

namespace Go.Proofs.YtgjffaoggjlamaaGreatDoor
open Go Go.RowKit
theorem eqB_same (n : Nat) (f : Nat → Int) : eqB n f n f = true := decide_eq_true ⟨rfl, fun _ _ => rfl⟩
/-- do bytes say a root? -/
def okG (n : Nat) (b : Nat → Int) : Bool := decide (n = 153) && (decide (b 0 = 2) && shT (getR b) (getH b) (getQ b) 64)
theorem okG_true {n : Nat} {b : Nat → Int} (h : okG n b = true) : n = 153 ∧ b 0 = 2 ∧ shT (getR b) (getH b) (getQ b) 64 = true := by
  unfold okG at h
  simp only [Bool.and_eq_true, decide_eq_true_eq] at h
  exact h
def PostGn (OK : Bool) (b : Nat → Int) (w : World) (e : Ending) (w' : World) : Prop := ∃ p1 n1 c1 p2 n2 c2 r s q code, e = .returned (.tuple #[.agg #[.int .i64 r, .int .i64 s, .int .i64 q, .slice p1 n1 c1, .slice p2 n2 c2], .int .i64 code]) ∧ (OK = true → code = 0 ∧ r = getR b ∧ s = getH b ∧ q = getQ b ∧ n1 = 64 ∧ n2 = 64 ∧ (∃ g1, p1 = some ⟨g1, 0, none⟩ ∧ RowB w' g1 64 c1 (fun j => b (25 + j))) ∧ ∃ g2, p2 = some ⟨g2, 0, none⟩ ∧ RowB w' g2 64 c2 (fun j => b (89 + j))) ∧ (OK = false → code = 4 ∧ r = 0 ∧ s = 0 ∧ q = 0 ∧ p1 = none ∧ n1 = 0 ∧ c1 = 0 ∧ p2 = none ∧ n2 = 0 ∧ c2 = 0) ∧ Below w.heap.size w w'
theorem Get_no (p : Option Addr) (n c : Nat) (b : Nat → Int) (hr : Sc.Byt b) (hc : n ≤ c) (h : okG n b = false) (w : World) (hX : BX [] w p n b) : Calls Tryz.prog 25 #[.slice p n c] w (PostGx w) := by
  by_cases h1 : n = 153
  · subst h1
    obtain ⟨g, o, rfl, hg, -, hcell⟩ := hX (by decide)
    by_cases h2 : b 0 = 2
    · have h3 : shT (getR b) (getH b) (getQ b) 64 = false := by
        unfold okG at h
        simpa [h2] using h
      refine Get_x _ _ _ w (fun gb w1 hb hB => ?_)
      have k := get_c gb g o c b hr hc h2 w1 hB (Nat.lt_of_lt_of_le hg hb.size) (fun j hj => (hb.cell (p := ⟨g, o + j, none⟩) hg).trans (hcell j hj))
      rw [h3] at k
      exact k.mono fun e w' k => k.2 rfl
    · refine Get_x _ _ _ w (fun gb w1 hb hB => ?_)
      exact get_x2 gb g o c (b 0) h2 w1 hB (Nat.lt_of_lt_of_le hg hb.size) ((hb.cell (p := ⟨g, o, none⟩) hg).trans (by have := hcell 0 (by decide); rwa [Nat.add_zero] at this))
  · exact Get_x _ _ _ w (fun gb w1 _ hB => get_x1 gb p n c h1 w1 hB)
theorem Get_n (p : Option Addr) (n c : Nat) (b : Nat → Int) (hr : Sc.Byt b) (hc : n ≤ c) (w : World) (hX : BX [] w p n b) : Calls Tryz.prog 25 #[.slice p n c] w (PostGn (okG n b) b w) := by
  cases h : okG n b with
  | true =>
    obtain ⟨rfl, h2, h3⟩ := okG_true h
    obtain ⟨g, o, rfl, hg, -, hcell⟩ := hX (by decide)
    refine (Get_ok g o c b hr hc h2 h3 w hg hcell).mono fun e w' k => ?_
    obtain ⟨g1, c1, g2, c2, he, _, _, k1, k2, hb⟩ := k
    exact ⟨_, _, _, _, _, _, _, _, _, _, he, fun _ => ⟨rfl, rfl, rfl, rfl, rfl, rfl, ⟨_, rfl, k1⟩, _, rfl, k2⟩, fun h => (by cases h), hb⟩
  | false =>
    refine (Get_no p n c b hr hc h w hX).mono fun e w' k => ?_
    exact ⟨_, _, _, _, _, _, _, _, _, _, k.1, fun h => (by cases h), fun _ => ⟨rfl, rfl, rfl, rfl, rfl, rfl, rfl, rfl, rfl, rfl⟩, k.2⟩
def PostPn (OK : Bool) (F : Nat → Int) (w : World) (e : Ending) (w' : World) : Prop := ∃ p n c code, e = .returned (.tuple #[.slice p n c, .int .i64 code]) ∧ (OK = true → code = 0 ∧ n = 153 ∧ ∃ g, p = some ⟨g, 0, none⟩ ∧ RowB w' g 153 c F) ∧ (OK = false → code = 4) ∧ Below w.heap.size w w'
theorem Put_n (r h q : Int) (p1 : Option Addr) (n1 c1 : Nat) (p2 : Option Addr) (n2 c2 : Nat) (S G : Nat → Int) (hc1 : n1 ≤ c1) (hc2 : n2 ≤ c2) (w : World) (hS : BX [] w p1 n1 S) (hG : BX [] w p2 n2 G) :
    Calls Tryz.prog 26 #[.agg #[.int .i64 r, .int .i64 h, .int .i64 q, .slice p1 n1 c1, .slice p2 n2 c2]] w (PostPn (shT r h q n1 && decide (n2 = 64)) (rpI r h q S G) w) := by
  cases e : (shT r h q n1 && decide (n2 = 64)) with
  | true =>
    have e' := e
    rw [Bool.and_eq_true, decide_eq_true_eq] at e'
    obtain ⟨e1, rfl⟩ := e'
    obtain rfl := (shT_true e1).2.2.2.2.2.2
    refine (Put_ok r h q p1 c1 p2 c2 S G e1 hc1 hc2 w hS hG).mono fun e w' k => ?_
    obtain ⟨g, c, he, _, hR, hb⟩ := k
    exact ⟨_, _, _, _, he, fun _ => ⟨rfl, rfl, g, rfl, hR⟩, fun h => (by cases h), hb⟩
  | false =>
    refine (Put_err r h q p1 n1 c1 p2 n2 c2 e w).mono fun e w' k => ?_
    exact ⟨_, _, _, _, k.1, fun h => (by cases h), fun _ => rfl, k.2⟩
/-- what was got is put as it was -/
theorem Put_got (c1 c2 g1 g2 : Nat) (b : Nat → Int) (hr : Sc.Byt b) (h2 : b 0 = 2) (h3 : shT (getR b) (getH b) (getQ b) 64 = true) (w : World) (hS : RowB w g1 64 c1 (fun j => b (25 + j))) (hG : RowB w g2 64 c2 (fun j => b (89 + j))) :
    Calls Tryz.prog 26 #[.agg #[.int .i64 (getR b), .int .i64 (getH b), .int .i64 (getQ b), .slice (some ⟨g1, 0, none⟩) 64 c1, .slice (some ⟨g2, 0, none⟩) 64 c2]] w (PostB0 153 b w) := by
  refine (Put_ok _ _ _ _ c1 _ c2 _ _ h3 hS.cap hG.cap w hS.bx hG.bx).mono fun e w' k => ?_
  obtain ⟨g, c, he, hg, hR, hb⟩ := k
  exact ⟨g, c, he, hg, hR.congr (fun j hj => get_rp hr h2 h3 j hj), hb⟩
def PostGy (r s q : Int) (S G : Nat → Int) (w : World) (e : Ending) (w' : World) : Prop := ∃ g1 c1 g2 c2, e = .returned (.tuple #[.agg #[.int .i64 r, .int .i64 s, .int .i64 q, .slice (some ⟨g1, 0, none⟩) 64 c1, .slice (some ⟨g2, 0, none⟩) 64 c2], .int .i64 0]) ∧ RowB w' g1 64 c1 S ∧ RowB w' g2 64 c2 G ∧ Below w.heap.size w w'
/-- what was put is got as it was -/
theorem Get_put (g c : Nat) (r s q : Int) (S G : Nat → Int) (e1 : shT r s q 64 = true) (hS : Sc.Byt S) (hG : Sc.Byt G) (w : World) (hR : RowB w g 153 c (rpI r s q S G)) : Calls Tryz.prog 25 #[.slice (some ⟨g, 0, none⟩) 153 c] w (PostGy r s q S G w) := by
  obtain ⟨k0, k1, k2, k3, k4, k5⟩ := rp_get e1 S G
  refine (Get_ok g 0 c _ (rp_byt hS hG) hR.cap k0 (by rw [k1, k2, k3]; exact e1) w hR.lt (fun j hj => by rw [Nat.zero_add]; exact hR.cell j hj)).mono fun e w' k => ?_
  obtain ⟨g1, c1, g2, c2, he, _, _, q1, q2, hb⟩ := k
  rw [k1, k2, k3] at he
  exact ⟨g1, c1, g2, c2, he, q1.congr k4, q2.congr k5, hb⟩
theorem sameRoot_t (r h q : Int) (p2 : Option Addr) (n2 c2 : Nat) (p3 : Option Addr) (n3 c3 : Nat) (pb2 : Option Addr) (cb2 : Nat) (pb3 : Option Addr) (cb3 : Nat) (vs ss : Nat → Int) (hn2 : n2 ≤ 1000000) (hn3 : n3 ≤ 1000000) (w : World) (hV : BAt w p2 n2 vs) (hS : BAt w p3 n3 ss) (hVb : BAt w pb2 n2 vs) (hSb : BAt w pb3 n3 ss) :
    Calls Tryz.prog 29 #[.agg #[.int .i64 r, .int .i64 h, .int .i64 q, .slice p2 n2 c2, .slice p3 n3 c3], .agg #[.int .i64 r, .int .i64 h, .int .i64 q, .slice pb2 n2 cb2, .slice pb3 n3 cb3]] w (PostV (.bool true) w) :=
  (sameRoot_c r h q p2 n2 c2 p3 n3 c3 r h q pb2 n2 cb2 pb3 n3 cb3 vs ss vs ss hn2 hn3 hn2 hn3 w hV hS hVb hSb).mono fun e w' k => ⟨by rw [k.1, eqB_same, eqB_same]; simp, k.2⟩
theorem sameB_t (p1 p2 : Option Addr) (n c1 c2 : Nat) (b : Nat → Int) (hn : n ≤ 1000000) (w : World) (h1 : BAt w p1 n b) (h2 : BAt w p2 n b) : Calls Tryz.prog 28 #[.slice p1 n c1, .slice p2 n c2] w (PostV (.bool true) w) :=
  (sameB_c p1 p2 n c1 n c2 b b hn hn w h1 h2).mono fun e w' k => ⟨by rw [k.1, eqB_same], k.2⟩
end Go.Proofs.YtgjffaoggjlamaaGreatDoor
