/- root: Check of what is no root. root: Check of a root whose signature does not fit. root: Check of a root whose signature fits. law15: of, great. Plain: SHA-512 of two blocks, a multiple of the base point with both coordinates, reckoned by the kernel; another's signature does not fit. Plain: law15's awake: a signature of seed 0 under the key of seed 1: it does not fit. root, plain: a root's text and bytes tell it. -/
import Derived.Test.YtgjffaoggjlamaaGreatDoorNc
import Derived.Test.YtgjffaoggjlamaaGreatDoorCt
import Derived.Test.YtgjffaoggjlamaaGreatDoorNb
import Derived.Test.YtgjffaoggjlamaaGreatDoorCr
namespace Go.Proofs.YtgjffaoggjlamaaGreatDoor
open Go Go.RowKit
theorem Check_shape (pk : Option Addr) (nk ck : Nat) (r s q : Int) (p1 : Option Addr) (n1 c1 : Nat) (p2 : Option Addr) (n2 c2 : Nat) (hn : (shT r s q n1 && decide (n2 = 64)) = false) (w : World) :
    Calls Tryz.prog 17 #[.slice pk nk ck, .agg #[.int .i64 r, .int .i64 s, .int .i64 q, .slice p1 n1 c1, .slice p2 n2 c2]] w (PostV (.int .i64 4) w) :=
  Check_err 4 pk nk ck r s q p1 n1 c1 p2 n2 c2 w (fun gr gk w1 _ hB _ => check_x1 gr gk r s q p1 n1 c1 p2 n2 c2 hn w1 hB)
theorem Check_len (pk : Option Addr) (nk ck : Nat) (hnk : ¬ nk = 32) (r s q : Int) (p1 : Option Addr) (c1 : Nat) (p2 : Option Addr) (c2 : Nat) (S : Nat → Int) (hyes : shT r s q 64 = true) (hc1 : 64 ≤ c1) (w : World) (hX : BX [] w p1 64 S) :
    Calls Tryz.prog 17 #[.slice pk nk ck, .agg #[.int .i64 r, .int .i64 s, .int .i64 q, .slice p1 64 c1, .slice p2 64 c2]] w (PostV (.int .i64 20) w) :=
  Check_err 20 pk nk ck r s q p1 64 c1 p2 64 c2 w (fun gr gk w1 hb0 hB hK => check_x2 gr gk r s q p1 c1 p2 c2 pk nk ck S hyes hc1 w1 hB hK (hX.below hb0) (fun _ _ _ _ _ => verify_x1 pk p2 nk ck 64 c2 _ hnk _))
end Go.Proofs.YtgjffaoggjlamaaGreatDoor

namespace Go.Proofs.YtgjffaoggjlamaaGreatDoor
open Go Go.RowKit
set_option maxRecDepth 20000 in
theorem Check_false (g1 o1 ck g o d : Nat) (r s q : Int) (p1 : Option Addr) (c1 : Nat) (S b G : Nat → Int) (hyes : shT r s q 64 = true) (hc1 : 64 ≤ c1) (hck : 32 ≤ ck) (hd : 64 ≤ d) (hb : Sc.Byt b) (hG : Sc.Byt G) (hSr : ∀ j, j < 64 → 0 ≤ S j ∧ S j < 256) (hv : Sh.verI b G [(89, txI r s q S)] = false) (w : World) (hg1 : g1 < w.heap.size) (hk : ∀ j, j < 32 → w.cell? ⟨g1, o1 + j, none⟩ = some (.int .u8 (b j))) (hg : g < w.heap.size) (hs : ∀ j, j < 64 → w.cell? ⟨g, o + j, none⟩ = some (.int .u8 (G j))) (hX : BX [] w p1 64 S) (hSh : ShP w) (hCv : CvP w) :
    Calls Tryz.prog 17 #[.slice (some ⟨g1, o1, none⟩) 32 ck, .agg #[.int .i64 r, .int .i64 s, .int .i64 q, .slice p1 64 c1, .slice (some ⟨g, o, none⟩) 64 d]] w (PostV (.int .i64 20) w) := by
  have lB := hSh.lt
  have lC := hCv.lt
  obtain ⟨a1, a2, a3, a4, a5, a6, _⟩ := shT_true hyes
  have htr : ∀ j, j < 89 → 0 ≤ txI r s q S j ∧ txI r s q S j < 256 := fun j _ => Sh.catI_r [(1, fun _ => 2), (24, num3 r s q), (64, S)] ⟨fun j _ => (show (0 : Int) ≤ 2 ∧ (2 : Int) < 256 by decide), fun j _ => ⟨Int.emod_nonneg _ (by decide), Int.emod_lt_of_pos _ (by decide)⟩, hSr, trivial⟩ j
  refine Check_err 20 _ _ _ r s q p1 64 c1 _ 64 d w (fun gr gk w1 hb0 hB hK => ?_)
  refine check_x2 gr gk r s q p1 c1 _ d _ 32 ck S hyes hc1 w1 hB hK (hX.below hb0) (fun g8 c8 w2 hb1 hR => ?_)
  have ha : Below w2.heap.size w2 (w2.alloc (.cells #[.slice (some ⟨g8, 0, none⟩) 89 c8] 26)) := (Below.refl _ _).alloc (Nat.le_refl _) _
  have hb2 := (hb0.trans (hb1.mono hb0.size)).trans (ha.mono (Nat.le_trans hb0.size hb1.size))
  rw [← hv]
  exact Verify_c g1 o1 ck g o d b G _ [.slice (some ⟨g8, 0, none⟩) 89 c8] [(89, txI r s q S)] _ hck hd hb hG (Nat.lt_of_lt_of_le hg1 hb2.size) (fun j hj => (hb2.cell (p := ⟨g1, o1 + j, none⟩) hg1).trans (hk j hj)) (Nat.lt_of_lt_of_le hg hb2.size) (fun j hj => (hb2.cell (p := ⟨g, o + j, none⟩) hg).trans (hs j hj)) (hCv.below hb2 lC) (parts_new w2 [.slice (some ⟨g8, 0, none⟩) 89 c8] (by show 0 < 1; decide) _) ⟨(hR.below ha).pv, trivial⟩ ⟨htr, trivial⟩ (by show 89 + 0 ≤ 1000000; decide) (by show 1 ≤ 10000; decide) (hSh.below hb2 lB) (by have := hb2.size; omega)
end Go.Proofs.YtgjffaoggjlamaaGreatDoor

namespace Go.Proofs.YtgjffaoggjlamaaGreatDoor
open Go Go.RowKit
set_option maxRecDepth 20000 in
theorem Check_true (g1 o1 ck g o d : Nat) (r s q : Int) (p1 : Option Addr) (c1 : Nat) (S b G : Nat → Int) (hyes : shT r s q 64 = true) (hc1 : 64 ≤ c1) (hck : 32 ≤ ck) (hd : 64 ≤ d) (hb : Sc.Byt b) (hG : Sc.Byt G) (hSr : ∀ j, j < 64 → 0 ≤ S j ∧ S j < 256) (hv : Sh.verI b G [(89, txI r s q S)] = true) (w : World) (hg1 : g1 < w.heap.size) (hk : ∀ j, j < 32 → w.cell? ⟨g1, o1 + j, none⟩ = some (.int .u8 (b j))) (hg : g < w.heap.size) (hs : ∀ j, j < 64 → w.cell? ⟨g, o + j, none⟩ = some (.int .u8 (G j))) (hX : BX [] w p1 64 S) (hSh : ShP w) (hCv : CvP w) :
    Calls Tryz.prog 17 #[.slice (some ⟨g1, o1, none⟩) 32 ck, .agg #[.int .i64 r, .int .i64 s, .int .i64 q, .slice p1 64 c1, .slice (some ⟨g, o, none⟩) 64 d]] w (PostV (.int .i64 0) w) := by
  have lB := hSh.lt
  have lC := hCv.lt
  obtain ⟨a1, a2, a3, a4, a5, a6, _⟩ := shT_true hyes
  have htr : ∀ j, j < 89 → 0 ≤ txI r s q S j ∧ txI r s q S j < 256 := fun j _ => Sh.catI_r [(1, fun _ => 2), (24, num3 r s q), (64, S)] ⟨fun j _ => (show (0 : Int) ≤ 2 ∧ (2 : Int) < 256 by decide), fun j _ => ⟨Int.emod_nonneg _ (by decide), Int.emod_lt_of_pos _ (by decide)⟩, hSr, trivial⟩ j
  refine Check_ok _ _ _ r s q p1 64 c1 _ 64 d w (fun gr gk w1 hb0 hB hK => ?_)
  refine check_c gr gk r s q p1 c1 _ d _ 32 ck S hyes hc1 w1 hB hK (hX.below hb0) (fun g8 c8 w2 hb1 hR => ?_)
  have ha : Below w2.heap.size w2 (w2.alloc (.cells #[.slice (some ⟨g8, 0, none⟩) 89 c8] 26)) := (Below.refl _ _).alloc (Nat.le_refl _) _
  have hb2 := (hb0.trans (hb1.mono hb0.size)).trans (ha.mono (Nat.le_trans hb0.size hb1.size))
  rw [← hv]
  exact Verify_c g1 o1 ck g o d b G _ [.slice (some ⟨g8, 0, none⟩) 89 c8] [(89, txI r s q S)] _ hck hd hb hG (Nat.lt_of_lt_of_le hg1 hb2.size) (fun j hj => (hb2.cell (p := ⟨g1, o1 + j, none⟩) hg1).trans (hk j hj)) (Nat.lt_of_lt_of_le hg hb2.size) (fun j hj => (hb2.cell (p := ⟨g, o + j, none⟩) hg).trans (hs j hj)) (hCv.below hb2 lC) (parts_new w2 [.slice (some ⟨g8, 0, none⟩) 89 c8] (by show 0 < 1; decide) _) ⟨(hR.below ha).pv, trivial⟩ ⟨htr, trivial⟩ (by show 89 + 0 ≤ 1000000; decide) (by show 1 ≤ 10000; decide) (hSh.below hb2 lB) (by have := hb2.size; omega)
end Go.Proofs.YtgjffaoggjlamaaGreatDoor

namespace Go.Proofs.YtgjffaoggjlamaaGreatDoor
open Go Go.RowKit
def PostOf (r s q : Int) (w : World) (e : Ending) (w' : World) : Prop := ∃ g, e = .returned (.agg #[.int .i64 r, .int .i64 s, .int .i64 q, .slice (some ⟨g, 0, none⟩) 64 64, .slice none 0 0]) ∧ w.heap.size ≤ g ∧ RowB w' g 64 64 (fun _ => 0) ∧ Below w.heap.size w w'
theorem row_zero (w : World) (k : Nat) (hk : k ≤ 1000) : RowB (w.alloc (.cells (List.replicate k (.int .u8 0)).toArray 5)) w.heap.size k k (fun _ => 0) := by
  refine ⟨(List.replicate k (.int .u8 0)).toArray, ?_, Nat.le_refl _, by unfold maxLen; omega, by simp, ?_⟩
  · unfold World.alloc
    simp
  · apply List.ext_getElem? 
    intro i
    by_cases hi : i < k
    · rw [cB_get k (fun _ => 0) i hi]
      simp [hi]
    · rw [List.getElem?_eq_none (by simp; omega), List.getElem?_eq_none (by rw [cB_len]; omega)]
set_option maxRecDepth 20000 in
set_option maxHeartbeats 1000000 in
theorem of15_c (r s q : Int) (w : World) : Calls Tryz.prog 74 #[.int .i64 r, .int .i64 s, .int .i64 q] w (PostOf r s q w) := by
  have hmk : ∀ w, (Instr.makeSlice 26 (.int .i64 64) (.int .i64 64)).run Tryz.prog w = .ok (.slice (some ⟨w.heap.size, 0, none⟩) 64 64) (w.alloc (.cells (List.replicate 64 (.int .u8 0)).toArray 5)) := fun _ => by kernel_rfl
  go_enter Tryz.func74, Tryz.ntmps74
  go_wp2
  go_returns
  have h := row_zero (w.alloc (.cells #[.int .i64 r, .int .i64 s, .int .i64 q, .slice (some ⟨w.heap.size + 1, 0, none⟩) 64 64, .slice none 0 0] 28)) 64 (by decide)
  rw [show (w.alloc (.cells #[.int .i64 r, .int .i64 s, .int .i64 q, .slice (some ⟨w.heap.size + 1, 0, none⟩) 64 64, .slice none 0 0] 28)).heap.size = w.heap.size + 1 by simp] at h
  exact ⟨w.heap.size + 1, rfl, by omega, h, by go_grown⟩
set_option maxRecDepth 20000 in
set_option maxHeartbeats 1000000 in
theorem great15_c (r s q : Int) (p1 : Option Addr) (n1 c1 : Nat) (p2 : Option Addr) (n2 c2 : Nat) (w : World) : Calls Tryz.prog 24 #[.agg #[.int .i64 r, .int .i64 s, .int .i64 q, .slice p1 n1 c1, .slice p2 n2 c2]] w (PostV (.bool (decide (1000 < n1) || decide (1000 < n2))) w) := by
  have hb0 := Lib.hid (show Below w.heap.size w (w.alloc (.cells #[.int .i64 r, .int .i64 s, .int .i64 q, .slice p1 n1 c1, .slice p2 n2 c2] 28)) from (Below.refl _ _).alloc (Nat.le_refl _) _)
  go_enter Tryz.func24, Tryz.ntmps24
  by_cases h1 : 1000 < n1
  · have i1 : (1000 : Int) < (n1 : Int) := by omega
    rw [decide_eq_true h1, Bool.true_or]
    clear h1
    go_wp2
    go_returns
    exact ⟨rfl, hb0.out⟩
  · have i1 : ¬ (1000 : Int) < (n1 : Int) := by omega
    rw [decide_eq_false h1, Bool.false_or]
    clear h1
    by_cases h2 : 1000 < n2
    · have i2 : (1000 : Int) < (n2 : Int) := by omega
      rw [decide_eq_true h2]
      clear h2
      go_wp2
      go_returns
      exact ⟨rfl, hb0.out⟩
    · have i2 : ¬ (1000 : Int) < (n2 : Int) := by omega
      rw [decide_eq_false h2]
      clear h2
      go_wp2
      go_returns
      exact ⟨rfl, hb0.out⟩
end Go.Proofs.YtgjffaoggjlamaaGreatDoor

namespace Fe
open Go.Proofs.YtgjffaoggjlamaaGreatDoor
/-- n more bits of e: is X, Y the point then? -/
def goD (e X Y n : Nat) : Nat → Nat → Nat → Bool := Nat.rec (motive := fun _ => Nat → Nat → Nat → Bool) (fun a b c => cond (Nat.beq (X * c % P) (a % P)) (Nat.beq (Y * c % P) (b % P)) false)
  (fun k ih a b c => ad3 a b c a b c fun x y z => cond (Nat.beq (e / 2 ^ k % 2) 1) (ad3 x y z bX bY 1 ih) (ih x y z)) n
theorem goD_sound (e X Y : Nat) (A : Nat → Bool) : ∀ n, (∀ k, k < n → A k = Nat.beq (e / 2 ^ k % 2) 1) → ∀ a b c s, RA a b c s.1 s.2 → goD e X Y n a b c = true → rest3 A n s = (zf X, zf Y)
  | 0, _, a, b, c, s, h, hg => by
    have hg' : (cond (Nat.beq (X * c % P) (a % P)) (Nat.beq (Y * c % P) (b % P)) false) = true := hg
    cases hx : Nat.beq (X * c % P) (a % P) with
    | false => rw [hx] at hg'; cases hg'
    | true =>
      rw [hx] at hg'
      have h0 := Nat.eq_of_beq_eq_true hx
      have h1 := Nat.eq_of_beq_eq_true (show Nat.beq (Y * c % P) (b % P) = true from hg')
      have hy := h.hy
      have hxx := h.hx
      have h2 := congrArg zf h1
      rw [zf_mod, zf_mod, zf_mul] at h2
      have h3 := congrArg zf h0
      rw [zf_mod, zf_mod, zf_mul] at h3
      show s = _
      exact Prod.ext (f_can h.nz (hxx.symm.trans h3.symm)) (f_can h.nz (hy.symm.trans h2.symm))
  | n + 1, hA, a, b, c, s, h, hg => by
    have hg' : (ad3 a b c a b c fun x y z => cond (Nat.beq (e / 2 ^ n % 2) 1) (ad3 x y z bX bY 1 (goD e X Y n)) (goD e X Y n x y z)) = true := hg
    rw [ad3_eq, ← hA n (by omega)] at hg'
    have hd := ra_add h h
    show rest3 A n (stepF (zf bX) (zf bY) s (A n)) = _
    cases hb : A n
    · rw [hb] at hg'
      exact goD_sound e X Y A n (fun k hk => hA k (by omega)) _ _ _ _ hd hg'
    rw [hb] at hg'
    change ad3 _ _ _ bX bY 1 (goD e X Y n) = true at hg'
    rw [ad3_eq] at hg'
    exact goD_sound e X Y A n (fun k hk => hA k (by omega)) _ _ _ _ (ra_add hd ra_b) hg'
theorem evQ {e X Y : Nat} (he : e < 2 ^ 256) (h : goD e X Y 256 0 1 1 = true) : nP e Bp = (zf X, zf Y) := by
  have h := goD_sound e X Y (fun k => Nat.beq (e / 2 ^ k % 2) 1) 256 (fun _ _ => rfl) 0 1 1 O2 ra_zero h
  rw [rest3_val _ _ _ o2_on, nP_zero, z_gad, bv_of, Nat.mod_eq_of_lt he] at h
  exact h
end Fe
namespace Sh
open Go Go.Proofs.YtgjffaoggjlamaaGreatDoor Go.Proofs
/-- one block more, behind the words v -/
noncomputable def shaM (v : List Nat) (b : Nat → Nat) : List Nat := goS kN (v.getD 0 0) (v.getD 1 0) (v.getD 2 0) (v.getD 3 0) (v.getD 4 0) (v.getD 5 0) (v.getD 6 0) (v.getD 7 0) (wordN b 0 8) (wordN b 1 8) (wordN b 2 8) (wordN b 3 8) (wordN b 4 8) (wordN b 5 8) (wordN b 6 8) (wordN b 7 8) (wordN b 8 8) (wordN b 9 8) (wordN b 10 8) (wordN b 11 8) (wordN b 12 8) (wordN b 13 8) (wordN b 14 8) (wordN b 15 8)
theorem shaM_ok {V : Nat → Int} {v : List Nat} (hv : ∀ j, j < 8 → V j = ((v.getD j 0 : Nat) : Int)) {b : Nat → Nat} {x0 x1 x2 x3 x4 x5 x6 x7 : Nat} (h : shaM v b = [x0, x1, x2, x3, x4, x5, x6, x7]) : ∀ j, j < 8 → blkI V (fun j => (b j : Int)) j = (((v.getD j 0 + [x0, x1, x2, x3, x4, x5, x6, x7].getD j 0) % 18446744073709551616 : Nat) : Int) := by
  have hs := seqN_ok b
  have hw : ∀ i, i < 16 → seqN b (0 + i) = wordN b i 8 := fun i hi => by rw [Nat.zero_add]; exact hs.1 i hi
  obtain ⟨a', b', c', d', e', f', g', h', e1, q⟩ := goS_ok hs (schI (fun j => (b j : Int)) 80) (fun t ht => sch_n hs 80 t ht) kN 0 (by decide +kernel) kN_ok V (v.getD 0 0) (v.getD 1 0) (v.getD 2 0) (v.getD 3 0) (v.getD 4 0) (v.getD 5 0) (v.getD 6 0) (v.getD 7 0) (wordN b 0 8) (wordN b 1 8) (wordN b 2 8) (wordN b 3 8) (wordN b 4 8) (wordN b 5 8) (wordN b 6 8) (wordN b 7 8) (wordN b 8 8) (wordN b 9 8) (wordN b 10 8) (wordN b 11 8) (wordN b 12 8) (wordN b 13 8) (wordN b 14 8) (wordN b 15 8) ⟨hv 0 (by decide), hv 1 (by decide), hv 2 (by decide), hv 3 (by decide), hv 4 (by decide), hv 5 (by decide), hv 6 (by decide), hv 7 (by decide)⟩ (hw 0 (by decide)) (hw 1 (by decide)) (hw 2 (by decide)) (hw 3 (by decide)) (hw 4 (by decide)) (hw 5 (by decide)) (hw 6 (by decide)) (hw 7 (by decide)) (hw 8 (by decide)) (hw 9 (by decide)) (hw 10 (by decide)) (hw 11 (by decide)) (hw 12 (by decide)) (hw 13 (by decide)) (hw 14 (by decide)) (hw 15 (by decide))
  have e2 : [a', b', c', d', e', f', g', h'] = [x0, x1, x2, x3, x4, x5, x6, x7] := e1.symm.trans h
  injection e2 with a0 e2; injection e2 with a1 e2; injection e2 with a2 e2; injection e2 with a3 e2; injection e2 with a4 e2; injection e2 with a5 e2; injection e2 with a6 e2; injection e2 with a7 e2
  subst a0 a1 a2 a3 a4 a5 a6 a7
  intro j hj
  unfold blkI
  rw [hv j hj]
  have hr : rndsI V (schI (fun j => (b j : Int)) 80) 80 j = (([a', b', c', d', e', f', g', h'].getD j 0 : Nat) : Int) := by
    have : j = 0 ∨ j = 1 ∨ j = 2 ∨ j = 3 ∨ j = 4 ∨ j = 5 ∨ j = 6 ∨ j = 7 := by omega
    rcases this with rfl | rfl | rfl | rfl | rfl | rfl | rfl | rfl
    · exact q.h0
    · exact q.h1
    · exact q.h2
    · exact q.h3
    · exact q.h4
    · exact q.h5
    · exact q.h6
    · exact q.h7
  rw [hr, ← Int.natCast_add, wrap_n]
/-- n bytes and their end, as numbers, where these fill two blocks -/
def joinN (n : Nat) (g : Nat → Nat) (j : Nat) : Nat := if j < n then g j else if j = n then 128 else if j < 248 then 0 else 8 * n / 2 ^ (56 - 8 * (j - 248)) % 256
theorem join_n {n : Nat} {f : Nat → Int} {g : Nat → Nat} (h1 : 112 ≤ n) (h2 : n ≤ 239) (hf : ∀ j, j < n → f j = (g j : Int)) (j : Nat) : joinI n f j = ((joinN n g j : Nat) : Int) := by
  have hz : zerI n = 239 - n := by unfold zerI; omega
  unfold joinI joinN endI
  rw [hz]
  by_cases h : j < n
  · rw [if_pos h, if_pos h, hf j h]
  rw [if_neg h, if_neg h]
  by_cases k1 : j = n
  · rw [if_pos (by omega), if_pos k1]; rfl
  rw [if_neg (by omega), if_neg k1]
  by_cases k2 : j < 248
  · rw [if_pos (by omega), if_pos k2]; rfl
  rw [if_neg (by omega), if_neg k2, show j - n - (9 + (239 - n)) = j - 248 by omega]
  simp
/-- the 64 bytes of the sum of two blocks, given the words behind each -/
theorem sum_of2 {n : Nat} {f : Nat → Int} {g : Nat → Nat} {x0 x1 x2 x3 x4 x5 x6 x7 y0 y1 y2 y3 y4 y5 y6 y7 : Nat} {v D : List Nat} (h1 : 112 ≤ n) (h2 : n ≤ 239) (hf : ∀ j, j < n → f j = (g j : Int)) (ha : shaM ivN (fun j => joinN n g (128 * 0 + j)) = [x0, x1, x2, x3, x4, x5, x6, x7])
    (hv : ∀ j : Fin 8, (ivN.getD j.val 0 + [x0, x1, x2, x3, x4, x5, x6, x7].getD j.val 0) % 18446744073709551616 = v.getD j.val 0) (hb : shaM v (fun j => joinN n g (128 * 1 + j)) = [y0, y1, y2, y3, y4, y5, y6, y7])
    (hD : ∀ j : Fin 64, (v.getD (j.val / 8) 0 + [y0, y1, y2, y3, y4, y5, y6, y7].getD (j.val / 8) 0) % 18446744073709551616 / 2 ^ (56 - 8 * (j.val % 8)) % 256 = D.getD j.val 0) : ∀ j, j < 64 → sumI n f j = ((D.getD j 0 : Nat) : Int) := fun j hj => by
  have hk : (n + (9 + zerI n + 8)) / 128 = 2 := by
    have hz : zerI n = 239 - n := by unfold zerI; omega
    omega
  have e : sumI n f = outI (blkI (blkI ivI (fun j => ((joinN n g (128 * 0 + j) : Nat) : Int))) (fun j => ((joinN n g (128 * 1 + j) : Nat) : Int))) := by
    unfold sumI
    rw [hk]
    show outI (blkI (blkI ivI (fun j => joinI n f (128 * 0 + j))) (fun j => joinI n f (128 * 1 + j))) = _
    rw [show (fun j => joinI n f (128 * 0 + j)) = fun j => ((joinN n g (128 * 0 + j) : Nat) : Int) from funext fun j => join_n h1 h2 hf _, show (fun j => joinI n f (128 * 1 + j)) = fun j => ((joinN n g (128 * 1 + j) : Nat) : Int) from funext fun j => join_n h1 h2 hf _]
  have hi : ∀ j, j < 8 → ivI j = ((ivN.getD j 0 : Nat) : Int) := by decide +kernel
  have s1 := shaM_ok (V := ivI) hi ha
  have s2 := shaM_ok (fun j hj => (s1 j hj).trans (by rw [hv ⟨j, hj⟩])) hb
  rw [e, ← hD ⟨j, hj⟩]
  unfold outI
  rw [s2 (j / 8) (by omega)]
  simp
/-- a point's bytes -/
theorem pt_list {p : Fe.Pt} {X Y : Nat} {L : List Nat} (h : p = (Fe.zf X, Fe.zf Y)) (hX : X < Fe.P) (hY : Y < Fe.P) (hL : ∀ j : Fin 32, ptB Y X j.val = ((L.getD j.val 0 : Nat) : Int)) : ∀ j, j < 32 → ptI p j = ((L.getD j 0 : Nat) : Int) := fun j hj => by
  rw [← hL ⟨j, hj⟩]
  unfold ptI
  rw [h, show (Fe.zf Y).val = Y from Nat.mod_eq_of_lt hY, show (Fe.zf X).val = X from Nat.mod_eq_of_lt hX]
/-- the number that a seed's bytes hold -/
theorem clamp_list {f : Nat → Int} {D L : List Nat} (hD : ∀ j, j < 64 → sumI 32 f j = ((D.getD j 0 : Nat) : Int)) (hL : ∀ j : Fin 32, clampI (fun j => ((D.getD j 0 : Nat) : Int)) j.val = ((L.getD j.val 0 : Nat) : Int)) : (Sc.leV (clampI (sumI 32 f)) 32) = Sc.leV (fun j => ((L.getD j 0 : Nat) : Int)) 32 := by
  refine Sc.leV_congr 32 (fun j hj => ?_)
  rw [← hL ⟨j, hj⟩]
  unfold clampI
  rw [hD 31 (by decide), hD 0 (by decide), hD j (by omega)]
theorem clamp_hi {f : Nat → Int} {D : List Nat} (hD : ∀ j, j < 64 → sumI 32 f j = ((D.getD j 0 : Nat) : Int)) (j : Nat) (hj : j < 32) : clampI (sumI 32 f) (32 + j) = ((D.getD (32 + j) 0 : Nat) : Int) := by
  unfold clampI
  rw [if_neg (by omega), if_neg (by omega), hD _ (by omega)]
/-- another's signature does not fit, where the products differ -/
theorem ver_other {f0 f1 b s : Nat → Int} {l l' : Ps} (hb : ∀ j, j < 32 → b j = ptI (keyP f1) j) (hs : ∀ j, j < 64 → s j = sigI f0 l j) (hne : (Sc.leV (Sc.byt (hI f0 l)) 32).toNat * (Sc.leV (clampI (sumI 32 f0)) 32).toNat % Fe.ordN ≠ hash3 b s l' * (Sc.leV (clampI (sumI 32 f1)) 32).toNat % Fe.ordN) : verI b s l' = false := by
  have e : Sc.leV (fun j => s (32 + j)) 32 = sI f0 l := by rw [Sc.leV_congr 32 (fun j hj => hs (32 + j) (by omega)), sig_leV]
  rw [verI_pt (key_on f1) (rP_on f0 l) hb (fun j hj => by rw [hs j (by omega), sig_lo f0 l j hj]) l' (by rw [e]; exact (sI_bd f0 l).2), e]
  refine decide_eq_false (fun h => hne ?_)
  rw [sI_nat, Fe.nP_mod, Fe.nP_add Fe.Bp_on, Fe.nP_neg (key_on f1)] at h
  have hk : keyP f1 = Fe.nP (Sc.leV (clampI (sumI 32 f1)) 32).toNat Fe.Bp := rfl
  have hr : Fe.nP (Sc.leV (Sc.byt (rI f0 l)) 32).toNat Fe.Bp = rP f0 l := rfl
  rw [hk, ← Fe.nP_mul Fe.Bp_on, hr, Nat.mul_comm _ (hash3 b s l')] at h
  have hR := rP_on f0 l
  have h0 : Fe.On2 (Fe.nP ((Sc.leV (Sc.byt (hI f0 l)) 32).toNat * (Sc.leV (clampI (sumI 32 f0)) 32).toNat) Fe.Bp) := Fe.nP_on Fe.Bp_on _
  have h1 : Fe.On2 (Fe.nP (hash3 b s l' * (Sc.leV (clampI (sumI 32 f1)) 32).toNat) Fe.Bp) := Fe.nP_on Fe.Bp_on _
  refine Fe.nP_lt (Nat.mod_lt _ (by unfold Fe.ordN; decide)) (Nat.mod_lt _ (by unfold Fe.ordN; decide)) ?_
  rw [Fe.nP_mod, Fe.nP_mod]
  generalize Fe.nP ((Sc.leV (Sc.byt (hI f0 l)) 32).toNat * (Sc.leV (clampI (sumI 32 f0)) 32).toNat) Fe.Bp = X0 at *
  generalize Fe.nP (hash3 b s l' * (Sc.leV (clampI (sumI 32 f1)) 32).toNat) Fe.Bp = X1 at *
  generalize rP f0 l = R at *
  have h2 : Fe.gad (Fe.gad (Fe.neg2 X1) X0) R = Fe.gad Fe.O2 R := by
    rw [Fe.gad_assoc (Fe.neg2_on h1) h0 hR, h, Fe.z_gad]
  have h3 := Fe.gad_cancel (Fe.gad_on (Fe.neg2_on h1) h0) Fe.o2_on hR h2
  have h4 := congrArg (Fe.gad X1) h3
  rwa [← Fe.gad_assoc h1 (Fe.neg2_on h1) h0, Fe.gad_neg h1, Fe.z_gad, Fe.gad_z] at h4
end Sh

namespace Sh
open Go Go.Proofs.YtgjffaoggjlamaaGreatDoor Go.Proofs
theorem cat_list {n : Nat} {a : Nat → Int} {l : Ps} {A B : List Nat} (ha : ∀ j, j < n → a j = ((A.getD j 0 : Nat) : Int)) (hA : A.length = n) (hl : ∀ j, j < lenI l → catI l j = ((B.getD j 0 : Nat) : Int)) (j : Nat) (hj : j < n + lenI l) : catI ((n, a) :: l) j = (((A ++ B).getD j 0 : Nat) : Int) := by
  show (if j < n then a j else catI l (j - n)) = _
  rw [List.getD_eq_getElem?_getD]
  split
  · rename_i h
    rw [ha j h, List.getD_eq_getElem?_getD, List.getElem?_append_left (by omega)]
  · rename_i h
    rw [hl _ (by omega), List.getD_eq_getElem?_getD, List.getElem?_append_right (by omega), hA]
theorem cat_nil (B : List Nat) (j : Nat) (hj : j < lenI []) : catI [] j = ((B.getD j 0 : Nat) : Int) := absurd hj (Nat.not_lt_zero _)
def zeroF (_ : Nat) : Int := 0
def oneF (j : Nat) : Int := if j = 0 then 1 else 0
def txL : List Nat := [2, 0, 0, 0, 0, 0, 0, 0, 1, 0, 0, 0, 0, 0, 0, 0, 0, 0, 0, 0, 0, 0, 0, 0, 1, 0, 0, 0, 0, 0, 0, 0, 0, 0, 0, 0, 0, 0, 0, 0, 0, 0, 0, 0, 0, 0, 0, 0, 0, 0, 0, 0, 0, 0, 0, 0, 0, 0, 0, 0, 0, 0, 0, 0, 0, 0, 0, 0, 0, 0, 0, 0, 0, 0, 0, 0, 0, 0, 0, 0, 0, 0, 0, 0, 0, 0, 0, 0, 0]
def m1 : Ps := [(89, txI 1 0 1 zeroF)]
theorem m1_len : lenI m1 = 89 := rfl
theorem tx_l : ∀ j, j < 89 → txI 1 0 1 zeroF j = ((txL.getD j 0 : Nat) : Int) := fun j hj => (show ∀ j : Fin 89, txI 1 0 1 zeroF j.val = ((txL.getD j.val 0 : Nat) : Int) by decide +kernel) ⟨j, hj⟩
theorem m1_l (j : Nat) (hj : j < lenI m1) : catI m1 j = (((txL ++ []).getD j 0 : Nat) : Int) := cat_list (l := []) tx_l (by decide +kernel) (cat_nil []) j (by rw [m1_len] at hj; exact hj)
def zD : List Nat := [80, 70, 173, 193, 219, 168, 56, 134, 123, 43, 187, 253, 208, 195, 66, 62, 88, 181, 121, 112, 181, 38, 122, 144, 245, 121, 96, 146, 74, 135, 241, 150, 10, 106, 133, 234, 166, 66, 218, 200, 53, 66, 75, 93, 124, 141, 99, 124, 0, 64, 140, 122, 115, 218, 103, 43, 127, 73, 133, 33, 66, 11, 109, 211]
theorem zdig : ∀ j, j < 64 → sumI 32 zeroF j = ((zD.getD j 0 : Nat) : Int) := sum_of (g := fun _ => 0) (fun j hj => rfl) (x0 := 16590354316283047806) (x1 := 13818184367001344771) (x2 := 2037463206167937637) (x3 := 5776266022435338917) (x4 := 13356607129400399863) (x5 := 11114007369083713373) (x6 := 16194014959973738944) (x7 := 2551491534185647194) (by decide +kernel) (by decide +kernel)
def oD : List Nat := [206, 12, 38, 94, 204, 130, 221, 140, 238, 110, 86, 206, 68, 228, 93, 175, 215, 160, 197, 117, 13, 249, 20, 178, 83, 161, 251, 122, 138, 246, 109, 219, 153, 118, 54, 7, 240, 168, 93, 11, 212, 54, 105, 25, 74, 58, 64, 87, 122, 82, 138, 243, 149, 244, 241, 126, 6, 241, 222, 252, 198, 222, 178, 165]
theorem odig : ∀ j, j < 64 → sumI 32 oneF j = ((oD.getD j 0 : Nat) : Int) := sum_of (g := fun j => if j = 0 then 1 else 0) (fun j hj => by unfold oneF; split <;> rfl) (x0 := 7206392683177579652) (x1 := 3676811176208610932) (x2 := 11182950256027638919) (x3 := 12561109183373063914) (x4 := 5217388867707066938) (x5 := 4121075740130923576) (x6 := 6543362229712139283) (x7 := 12326653324754456876) (by decide +kernel) (by decide +kernel)
def zC : List Nat := [80, 70, 173, 193, 219, 168, 56, 134, 123, 43, 187, 253, 208, 195, 66, 62, 88, 181, 121, 112, 181, 38, 122, 144, 245, 121, 96, 146, 74, 135, 241, 86]
theorem zA : (Sc.leV (clampI (sumI 32 zeroF)) 32).toNat = 39325648866980652792715009169219496062012184734522019333892538943312776480336 := by
  rw [clamp_list (L := zC) zdig (by decide +kernel)]
  decide +kernel
def oC : List Nat := [200, 12, 38, 94, 204, 130, 221, 140, 238, 110, 86, 206, 68, 228, 93, 175, 215, 160, 197, 117, 13, 249, 20, 178, 83, 161, 251, 122, 138, 246, 109, 91]
theorem oA : (Sc.leV (clampI (sumI 32 oneF)) 32).toNat = 41354757114163650016304086911142683682198188400503391378057401993857692208328 := by
  rw [clamp_list (L := oC) odig (by decide +kernel)]
  decide +kernel
theorem zKey : keyP zeroF = (Fe.zf 9639205628789703341510410801487549615560488670885798085067615194958049462616, Fe.zf 18930617471878267742194159801949745215346600387277955685031939302387136031291) := by
  unfold keyP
  rw [zA]
  exact Fe.evQ (by decide) (by decide +kernel)
def zK : List Nat := [59, 106, 39, 188, 206, 182, 164, 45, 98, 163, 168, 208, 42, 111, 13, 115, 101, 50, 21, 119, 29, 226, 67, 166, 58, 192, 72, 161, 139, 89, 218, 41]
theorem zKeyL : ∀ j, j < 32 → ptI (keyP zeroF) j = ((zK.getD j 0 : Nat) : Int) := pt_list zKey (by decide) (by decide) (by decide +kernel)
theorem oKey : keyP oneF = (Fe.zf 26822555233711949854380153315158647482531717314742952720223963642152101436051, Fe.zf 56461774818723834839721450787889437474891852695816614318545467683432985644238) := by
  unfold keyP
  rw [oA]
  exact Fe.evQ (by decide) (by decide +kernel)
def oK : List Nat := [206, 204, 21, 7, 220, 29, 221, 114, 149, 149, 28, 41, 8, 136, 240, 149, 173, 185, 4, 77, 27, 115, 214, 150, 230, 223, 6, 93, 104, 59, 212, 252]
theorem oKeyL : ∀ j, j < 32 → ptI (keyP oneF) j = ((oK.getD j 0 : Nat) : Int) := pt_list oKey (by decide) (by decide) (by decide +kernel)
theorem zm_l (j : Nat) (hj : j < lenI ((32, ptI (keyP zeroF)) :: m1)) : catI ((32, ptI (keyP zeroF)) :: m1) j = (((zK ++ (txL ++ [])).getD j 0 : Nat) : Int) := cat_list (l := m1) zKeyL (by decide +kernel) m1_l j hj
theorem om_l (j : Nat) (hj : j < lenI ((32, ptI (keyP oneF)) :: m1)) : catI ((32, ptI (keyP oneF)) :: m1) j = (((oK ++ (txL ++ [])).getD j 0 : Nat) : Int) := cat_list (l := m1) oKeyL (by decide +kernel) m1_l j hj
def rM : List Nat := [10, 106, 133, 234, 166, 66, 218, 200, 53, 66, 75, 93, 124, 141, 99, 124, 0, 64, 140, 122, 115, 218, 103, 43, 127, 73, 133, 33, 66, 11, 109, 211]
def rD : List Nat := [16, 58, 98, 199, 195, 145, 94, 30, 89, 76, 130, 163, 18, 18, 96, 109, 193, 173, 62, 155, 116, 197, 221, 221, 142, 21, 230, 5, 92, 237, 184, 110, 35, 234, 146, 88, 218, 113, 174, 45, 106, 200, 151, 203, 215, 153, 232, 214, 204, 51, 61, 25, 7, 150, 201, 119, 27, 249, 205, 28, 242, 12, 121, 38]
theorem rdig : ∀ j, j < 64 → sumI 121 (catI ((32, fun j => clampI (sumI 32 zeroF) (32 + j)) :: m1)) j = ((rD.getD j 0 : Nat) : Int) := sum_of2 (g := fun j => (rM ++ (txL ++ [])).getD j 0) (v := [4245461062001267881, 15950931169676683665, 11093369117364953738, 15721970883471292326, 11160073060387909811, 6494783085961889444, 4821906608014553008, 14034202142882011187]) (by decide) (by decide) (fun j hj => cat_list (fun j hj => (clamp_hi zdig j hj).trans (congrArg Nat.cast ((show ∀ j : Fin 32, zD.getD (32 + j.val) 0 = rM.getD j.val 0 by decide +kernel) ⟨j, hj⟩))) (by decide +kernel) m1_l j hj) (x0 := 15051313558754806689) (x1 := 2446977273501205078) (x2 := 6738683552428108383) (x3 := 3809961713000382645) (x4 := 5319376585309908450) (x5 := 13771077757678836357) (x6 := 2551008638211666501) (x7 := 7413685183062472378) (y0 := 15370638675083446645) (y1 := 8930474508532938460) (y2 := 2862510540326058835) (y3 := 12963115428843258056) (y4 := 9874712859519073658) (y5 := 1199783779151946290) (y6 := 9892264977245788615) (y7 := 6428409763256230131) (by decide +kernel) (by decide +kernel) (by decide +kernel) (by decide +kernel)
theorem rVal : rI zeroF m1 = 1546154287164402342505329362227527625304694878817231842897222036967604521112 := by
  show Sc.leV (sumI 121 (catI ((32, fun j => clampI (sumI 32 zeroF) (32 + j)) :: m1))) 64 % LI = _
  rw [Sc.leV_congr 64 rdig]
  unfold LI
  decide +kernel
theorem rPt : rP zeroF m1 = (Fe.zf 2543262022803974960871958150327681051181910118400845246709196858317612560408, Fe.zf 44330348967934298824946572884270141064721923470811369695222546061081196268021) := by
  unfold rP
  rw [rVal, leV_bytL (by decide) (by unfold LI; decide)]
  exact Fe.evQ (e := 1546154287164402342505329362227527625304694878817231842897222036967604521112) (by decide) (by decide +kernel)
def rK : List Nat := [245, 137, 118, 24, 75, 208, 144, 223, 27, 199, 90, 92, 167, 37, 129, 1, 15, 210, 188, 223, 60, 202, 8, 250, 181, 111, 49, 138, 158, 22, 2, 98]
theorem rPtL : ∀ j, j < 32 → ptI (rP zeroF m1) j = ((rK.getD j 0 : Nat) : Int) := pt_list rPt (by decide) (by decide) (by decide +kernel)
def hD : List Nat := [71, 145, 169, 231, 160, 34, 29, 253, 52, 144, 16, 181, 81, 224, 60, 112, 29, 163, 42, 198, 242, 160, 31, 168, 58, 206, 8, 172, 123, 244, 194, 96, 180, 240, 1, 183, 220, 139, 42, 36, 104, 103, 250, 132, 19, 187, 46, 196, 166, 151, 193, 254, 224, 238, 220, 128, 204, 108, 103, 34, 246, 40, 84, 143]
theorem hdig : ∀ j, j < 64 → sumI 153 (catI ((32, ptI (rP zeroF m1)) :: (32, ptI (keyP zeroF)) :: m1)) j = ((hD.getD j 0 : Nat) : Int) := sum_of2 (g := fun j => (rK ++ (zK ++ (txL ++ []))).getD j 0) (v := [10303262015095503689, 14375236544573368081, 12969479254424729589, 4520234511240826888, 5971740072551196632, 4149400153250095779, 17983414942698242457, 11711239898073304960]) (by decide) (by decide) (fun j hj => cat_list rPtL (by decide +kernel) zm_l j hj) (x0 := 2662370438139490881) (x1 := 871282648397889494) (x2 := 8614793689487884234) (x3 := 11054969414479468823) (x4 := 131043597473195271) (x5 := 11425694824967042692) (x6 := 15712516972895355950) (x7 := 5090722938253766151) (y0 := 13300571919219106484) (y1 := 7859053186703545695) (y2 := 7612862501551040435) (y3 := 18163843398777975384) (y4 := 7066182737877140044) (y5 := 3373856994469268513) (y6 := 12467605763230259943) (y7 := 3019021983005132047) (by decide +kernel) (by decide +kernel) (by decide +kernel) (by decide +kernel)
theorem hVal : (Sc.leV (Sc.byt (hI zeroF m1)) 32).toNat = 4033383968056110150333426015957216814661336014280037180314187329378679927606 := by
  have e : hI zeroF m1 = 4033383968056110150333426015957216814661336014280037180314187329378679927606 := by
    show Sc.leV (sumI 153 (catI ((32, ptI (rP zeroF m1)) :: (32, ptI (keyP zeroF)) :: m1))) 64 % LI = _
    rw [Sc.leV_congr 64 hdig]
    unfold LI
    decide +kernel
  rw [e, leV_bytL (by decide) (by unfold LI; decide)]
  rfl
def kD : List Nat := [114, 235, 17, 51, 230, 65, 231, 178, 91, 153, 190, 214, 138, 65, 223, 71, 139, 4, 245, 53, 9, 246, 216, 97, 114, 155, 186, 97, 171, 74, 145, 92, 48, 116, 5, 197, 204, 95, 182, 189, 62, 14, 102, 85, 136, 30, 99, 21, 222, 7, 63, 173, 161, 101, 205, 148, 160, 163, 206, 6, 203, 80, 244, 100]
theorem kdig : ∀ j, j < 64 → sumI 153 (catI ((32, sigI zeroF m1) :: (32, ptI (keyP oneF)) :: m1)) j = ((kD.getD j 0 : Nat) : Int) := sum_of2 (g := fun j => (rK ++ (oK ++ (txL ++ []))).getD j 0) (v := [44592906114691343, 11709815589275673657, 10906307830442381931, 9646779064574433203, 17186158111747021799, 1294679524087591102, 6769520003551572806, 10859633908979511283]) (by decide) (by decide) (fun j hj => cat_list (fun j hj => (sig_lo zeroF m1 j hj).trans (rPtL j hj)) (by decide +kernel) om_l j hj) (x0 := 10850445402868230151) (x1 := 16652605766809746686) (x2 := 6551622265505536576) (x3 := 16181513967813075138) (x4 := 11345461636669020438) (x5 := 8570974195804538015) (x6 := 4498622033748686299) (x7 := 4239116949159972474) (y0 := 8236138348340180643) (y1 := 13337445041973902094) (y2 := 17557837322595239414) (y3 := 17058364279497439657) (y4 := 4752007920177027798) (y5 := 3176944473479836247) (y6 := 9229306212675099214) (y7 := 715688086869001329) (by decide +kernel) (by decide +kernel) (by decide +kernel) (by decide +kernel)
theorem kVal : hash3 (ptI (keyP oneF)) (sigI zeroF m1) m1 = 3370080343548809881540663352193997289744309107581154294622206941052231801970 := by
  unfold hash3
  have e : Sh.numI ((32, sigI zeroF m1) :: (32, ptI (keyP oneF)) :: m1) = 3370080343548809881540663352193997289744309107581154294622206941052231801970 := by
    show Sc.leV (sumI 153 (catI ((32, sigI zeroF m1) :: (32, ptI (keyP oneF)) :: m1))) 64 % LI = _
    rw [Sc.leV_congr 64 kdig]
    unfold LI
    decide +kernel
  rw [e, leV_bytL (by decide) (by unfold LI; decide)]
  rfl
theorem other_no : verI (ptI (keyP oneF)) (sigI zeroF m1) m1 = false := ver_other (f0 := zeroF) (f1 := oneF) (l := m1) (fun _ _ => rfl) (fun _ _ => rfl) (by rw [hVal, kVal, zA, oA]; decide +kernel)
end Sh

namespace Go.Proofs.YtgjffaoggjlamaaGreatDoor
open Go Go.RowKit
def wvN (c : Nat → Nat) : Nat → Nat
  | 0 => 0
  | k + 1 => 256 * wvN c k + c k
theorem wvN_lt {c : Nat → Nat} (hc : ∀ j, c j < 256) : ∀ k, wvN c k < 256 ^ k
  | 0 => Nat.one_pos
  | k + 1 => by
    have h := wvN_lt hc k
    have h2 := hc k
    show 256 * wvN c k + c k < 256 ^ k * 256
    generalize 256 ^ k = p at *
    omega
theorem wv_n {b : Nat → Int} {c : Nat → Nat} (hb : ∀ j, b j = (c j : Int)) (hc : ∀ j, c j < 256) : ∀ k, k ≤ 8 → wv b k = ((wvN c k : Nat) : Int)
  | 0, _ => rfl
  | k + 1, hk => by
    have ih := wv_n hb hc k (by omega)
    have h1 := wvN_lt hc k
    have h2 := hc k
    have hp : 256 ^ k ≤ 256 ^ 7 := Nat.pow_le_pow_right (by decide) (by omega)
    have h3 : wvN c k < 72057594037927936 := Nat.lt_of_lt_of_le h1 hp
    show bits .or .u64 (IntKind.u64.wrap (wv b k * 256)) (b k) = _
    rw [ih, hb k, show ((wvN c k : Nat) : Int) * 256 = ((wvN c k * 256 : Nat) : Int) by simp, Sh.wrap_n, Sh.or_n]
    unfold Sh.orN
    rw [Nat.mod_mod, Nat.mod_eq_of_lt (show wvN c k * 256 < 18446744073709551616 by omega), Nat.mod_eq_of_lt (show c k < 18446744073709551616 by omega), Nat.mul_comm, show 256 * wvN c k = 2 ^ 8 * wvN c k from rfl, ← Nat.two_pow_add_eq_or_of_lt (show c k < 2 ^ 8 by omega)]
    rfl
theorem intv_pos {b : Nat → Int} (hb : Sc.Byt b) : ∃ c : Nat → Nat, (∀ j, b j = (c j : Int)) ∧ (∀ j, c j < 256) ∧ intv b = wrap64 ((wvN c 8 : Nat) : Int) := by
  have h : ∀ j, b j = ((b j).toNat : Int) := fun j => by have := hb j; omega
  have h2 : ∀ j, (b j).toNat < 256 := fun j => by have := hb j; omega
  exact ⟨fun j => (b j).toNat, h, h2, by unfold intv; rw [wv_n h h2 8 (Nat.le_refl _)]⟩
theorem wrap64_lo {n : Nat} (h : n < 18446744073709551616) (h0 : 0 ≤ wrap64 (n : Int)) : wrap64 (n : Int) = (n : Int) := by
  unfold wrap64 at h0 ⊢
  omega
theorem wrap64_id {n : Int} (h0 : 0 ≤ n) (h1 : n < 4611686018427387904) : wrap64 n = n := by
  unfold wrap64
  omega
/-- the bytes of what bytes say -/
theorem nb_intv {b : Nat → Int} (hb : Sc.Byt b) (h0 : 0 ≤ intv b) (j : Nat) (hj : j < 8) : nb (intv b) j = b j := by
  obtain ⟨c, h1, h2, h3⟩ := intv_pos hb
  rw [h3] at h0 ⊢
  rw [wrap64_lo (wvN_lt h2 8) h0, h1 j]
  have q0 := h2 0; have q1 := h2 1; have q2 := h2 2; have q3 := h2 3; have q4 := h2 4; have q5 := h2 5; have q6 := h2 6; have q7 := h2 7
  have : j = 0 ∨ j = 1 ∨ j = 2 ∨ j = 3 ∨ j = 4 ∨ j = 5 ∨ j = 6 ∨ j = 7 := by omega
  unfold nb
  simp only [wvN]
  rcases this with rfl | rfl | rfl | rfl | rfl | rfl | rfl | rfl <;> simp only [Nat.reduceSub, Nat.reduceMul, Int.reducePow] <;> omega
theorem nb_r (n : Int) (j : Nat) : 0 ≤ nb n j ∧ nb n j < 256 := ⟨Int.emod_nonneg _ (by decide), Int.emod_lt_of_pos _ (by decide)⟩
/-- what the bytes of a number say -/
theorem intv_nb {n : Int} (h0 : 0 ≤ n) (h1 : n < 4611686018427387904) {b : Nat → Int} (hb : ∀ j, j < 8 → b j = nb n j) : intv b = n := by
  obtain ⟨N, rfl⟩ := Int.eq_ofNat_of_zero_le h0
  have e : wv b 8 = wv (fun j => ((N / 2 ^ (8 * (7 - j)) % 256 : Nat) : Int)) 8 := by
    have : ∀ j, j < 8 → b j = ((N / 2 ^ (8 * (7 - j)) % 256 : Nat) : Int) := fun j hj => by
      rw [hb j hj]; unfold nb; simp
    simp only [wv]
    rw [this 0 (by decide), this 1 (by decide), this 2 (by decide), this 3 (by decide), this 4 (by decide), this 5 (by decide), this 6 (by decide), this 7 (by decide)]
  unfold intv
  rw [e, wv_n (c := fun j => N / 2 ^ (8 * (7 - j)) % 256) (fun _ => rfl) (fun j => Nat.mod_lt _ (by decide)) 8 (Nat.le_refl _)]
  have hw : wvN (fun j => N / 2 ^ (8 * (7 - j)) % 256) 8 = N := by
    simp only [wvN, Nat.reduceSub, Nat.reduceMul, Nat.reducePow]
    omega
  rw [hw]
  exact wrap64_id h0 h1
theorem intv_congr {b c : Nat → Int} (h : ∀ j, j < 8 → b j = c j) : intv b = intv c := by
  unfold intv
  simp only [wv]
  rw [h 0 (by decide), h 1 (by decide), h 2 (by decide), h 3 (by decide), h 4 (by decide), h 5 (by decide), h 6 (by decide), h 7 (by decide)]
/-- where a text's parts lie -/
theorem tx_0 (r h q : Int) (S : Nat → Int) : txI r h q S 0 = 2 := rfl
theorem tx_n (r h q : Int) (S : Nat → Int) (k j : Nat) (hk : k < 3) (hj : j < 8) : txI r h q S (1 + (8 * k + j)) = nb (pick3 r h q k) j := by
  rw [← num3_at r h q k j hk hj]
  unfold txI Sh.catI Sh.catI
  rw [if_neg (by omega), if_pos (by show 1 + (8 * k + j) - 1 < 24; omega), show 1 + (8 * k + j) - 1 = 8 * k + j by omega]
theorem pick3_0 (r h q : Int) : pick3 r h q 0 = r := rfl
theorem pick3_1 (r h q : Int) : pick3 r h q 1 = h := rfl
theorem pick3_2 (r h q : Int) : pick3 r h q 2 = q := rfl
theorem tx_s (r h q : Int) (S : Nat → Int) (j : Nat) (hj : j < 64) : txI r h q S (25 + j) = S j := by
  unfold txI Sh.catI Sh.catI Sh.catI
  rw [if_neg (by omega), if_neg (by show ¬ 25 + j - 1 < 24; omega), if_pos (by show 25 + j - 1 - 24 < 64; omega), show 25 + j - 1 - 24 = j by omega]
theorem rp_t (r h q : Int) (S G : Nat → Int) (j : Nat) (hj : j < 89) : rpI r h q S G j = txI r h q S j := by
  unfold rpI Sh.catI
  rw [if_pos hj]
theorem rp_g (r h q : Int) (S G : Nat → Int) (j : Nat) (hj : j < 64) : rpI r h q S G (89 + j) = G j := by
  unfold rpI Sh.catI Sh.catI
  rw [if_neg (by omega), if_pos (by show 89 + j - 89 < 64; omega), show 89 + j - 89 = j by omega]
theorem sh_bd {r h q : Int} {n : Nat} (e : shT r h q n = true) : (0 ≤ r ∧ r < 4611686018427387904) ∧ (0 ≤ h ∧ h < 4611686018427387904) ∧ (0 ≤ q ∧ q < 4611686018427387904) := by
  have := shT_true e
  omega
/-- the numbers of a text -/
theorem tx_get {r h q : Int} {n : Nat} (e : shT r h q n = true) {S b : Nat → Int} (hb : ∀ j, j < 89 → b j = txI r h q S j) : getR b = r ∧ getH b = h ∧ getQ b = q := by
  obtain ⟨h1, h2, h3⟩ := sh_bd e
  refine ⟨intv_nb h1.1 h1.2 fun j hj => ?_, intv_nb h2.1 h2.2 fun j hj => ?_, intv_nb h3.1 h3.2 fun j hj => ?_⟩
  · show b (1 + j) = _
    rw [hb _ (by omega), show 1 + j = 1 + (8 * 0 + j) by omega, tx_n _ _ _ _ 0 j (by decide) hj]
    rfl
  · show b (9 + j) = _
    rw [hb _ (by omega), show 9 + j = 1 + (8 * 1 + j) by omega, tx_n _ _ _ _ 1 j (by decide) hj]
    rfl
  · show b (17 + j) = _
    rw [hb _ (by omega), show 17 + j = 1 + (8 * 2 + j) by omega, tx_n _ _ _ _ 2 j (by decide) hj]
    rfl
/-- two roots of right shape have one text just if they are the same, but for Sig -/
theorem tx_eq {r h q r' h' q' : Int} {n n' : Nat} (e : shT r h q n = true) (e' : shT r' h' q' n' = true) (S S' : Nat → Int) : eqB 89 (txI r h q S) 89 (txI r' h' q' S') = (decide (r = r') && (decide (h = h') && (decide (q = q') && (eqB 64 S 64 S' && true)))) := by
  rw [Bool.and_true, Bool.eq_iff_iff]
  simp only [Bool.and_eq_true, decide_eq_true_eq, eqB]
  constructor
  · rintro ⟨-, hk⟩
    have h1 := tx_get e (b := txI r h q S) (fun _ _ => rfl)
    have h2 := tx_get e' (b := txI r h q S) hk
    refine ⟨h1.1.symm.trans h2.1, h1.2.1.symm.trans h2.2.1, h1.2.2.symm.trans h2.2.2, trivial, fun j hj => ?_⟩
    have := hk (25 + j) (by omega)
    rwa [tx_s _ _ _ _ _ hj, tx_s _ _ _ _ _ hj] at this
  · rintro ⟨rfl, rfl, rfl, -, hs⟩
    refine ⟨trivial, fun j hj => ?_⟩
    by_cases hj2 : j < 25
    · unfold txI Sh.catI Sh.catI Sh.catI
      by_cases h1 : j < 1
      · rw [if_pos h1, if_pos h1]
      · rw [if_neg h1, if_neg h1, if_pos (by show j - 1 < 24; omega), if_pos (by show j - 1 < 24; omega)]
    · obtain ⟨k, rfl⟩ : ∃ k, j = 25 + k := ⟨j - 25, by omega⟩
      rw [tx_s _ _ _ _ _ (by omega), tx_s _ _ _ _ _ (by omega), hs k (by omega)]
/-- what is got of a root's bytes -/
theorem rp_get {r h q : Int} {n : Nat} (e : shT r h q n = true) (S G : Nat → Int) : rpI r h q S G 0 = 2 ∧ getR (rpI r h q S G) = r ∧ getH (rpI r h q S G) = h ∧ getQ (rpI r h q S G) = q ∧ (∀ j, j < 64 → rpI r h q S G (25 + j) = S j) ∧ ∀ j, j < 64 → rpI r h q S G (89 + j) = G j := by
  have h1 := tx_get e (b := rpI r h q S G) (S := S) (fun j hj => rp_t r h q S G j hj)
  exact ⟨rfl, h1.1, h1.2.1, h1.2.2, fun j hj => by rw [rp_t _ _ _ _ _ _ (by omega), tx_s _ _ _ _ _ hj], fun j hj => rp_g _ _ _ _ _ j hj⟩
/-- what is got of bytes, put again -/
theorem get_rp {b : Nat → Int} (hr : Sc.Byt b) (h2 : b 0 = 2) {n : Nat} (e : shT (getR b) (getH b) (getQ b) n = true) (j : Nat) (hj : j < 153) : rpI (getR b) (getH b) (getQ b) (fun j => b (25 + j)) (fun j => b (89 + j)) j = b j := by
  have hs := shT_true e
  by_cases h1 : j < 89
  · rw [rp_t _ _ _ _ _ _ h1]
    by_cases h3 : j < 25
    · by_cases h4 : j = 0
      · subst h4
        rw [tx_0, h2]
      · obtain ⟨k, i, hk, hi, rfl⟩ : ∃ k i, k < 3 ∧ i < 8 ∧ j = 1 + (8 * k + i) := ⟨(j - 1) / 8, (j - 1) % 8, by omega, by omega, by omega⟩
        rw [tx_n _ _ _ _ k i hk hi]
        have : k = 0 ∨ k = 1 ∨ k = 2 := by omega
        rcases this with rfl | rfl | rfl
        · rw [pick3_0]
          unfold getR
          rw [nb_intv (fun j => hr (1 + j)) (by show 0 ≤ getR b; omega) i hi, show 1 + (8 * 0 + i) = 1 + i by omega]
        · rw [pick3_1]
          unfold getH
          rw [nb_intv (fun j => hr (9 + j)) (by show 0 ≤ getH b; omega) i hi, show 1 + (8 * 1 + i) = 9 + i by omega]
        · rw [pick3_2]
          unfold getQ
          rw [nb_intv (fun j => hr (17 + j)) (by show 0 ≤ getQ b; omega) i hi, show 1 + (8 * 2 + i) = 17 + i by omega]
    · obtain ⟨k, rfl⟩ : ∃ k, j = 25 + k := ⟨j - 25, by omega⟩
      rw [tx_s _ _ _ _ _ (by omega)]
  · obtain ⟨k, rfl⟩ : ∃ k, j = 89 + k := ⟨j - 89, by omega⟩
    rw [rp_g _ _ _ _ _ _ (by omega)]
theorem rp_byt {r h q : Int} {S G : Nat → Int} (hS : Sc.Byt S) (hG : Sc.Byt G) : Sc.Byt (rpI r h q S G) := Sh.catI_r [(89, txI r h q S), (64, G)] ⟨fun j _ => Sh.catI_r [(1, fun _ => 2), (24, num3 r h q), (64, S)] ⟨fun _ _ => (by decide : (0 : Int) ≤ 2 ∧ (2 : Int) < 256), fun _ _ => nb_r _ _, fun j _ => hS j, trivial⟩ j, fun j _ => hG j, trivial⟩
theorem tx_byt {r h q : Int} {S : Nat → Int} (hS : Sc.Byt S) : Sc.Byt (txI r h q S) := Sh.catI_r [(1, fun _ => 2), (24, num3 r h q), (64, S)] ⟨fun _ _ => (by decide : (0 : Int) ≤ 2 ∧ (2 : Int) < 256), fun _ _ => nb_r _ _, fun j _ => hS j, trivial⟩
end Go.Proofs.YtgjffaoggjlamaaGreatDoor
