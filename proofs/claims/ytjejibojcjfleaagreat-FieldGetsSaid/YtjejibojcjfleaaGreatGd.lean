/- FieldGets answers true, whatever bytes come in. -/
import Derived.Test.YtjejibojcjfleaaGreatGl
import Derived.Test.YtjejibojcjfleaaGreatBy
import Derived.Test.YtjejibojcjfleaaGreatGr
import Derived.Test.YtjejibojcjfleaaGreatN13
namespace Fe
open Go.Proofs.YtjejibojcjfleaaGreat
theorem gl_bit (b : Nat → Int) : ∀ k m, m < k → gl b k (m / 51) / 2 ^ (m % 51) % 2 = bbit b m
  | 0, m, h => absurd h (by omega)
  | k + 1, m, h => by
    simp only [gl]
    by_cases e : m = k
    · subst e
      rw [if_pos rfl]
      have hl := gl_lt b m (m / 51)
      rw [show min 51 (m - 51 * (m / 51)) = m % 51 by omega] at hl
      have hb := bbit_01 b m
      rw [Int.add_mul_ediv_right _ _ (Int.ne_of_gt (pow_pos2 _)), Int.ediv_eq_zero_of_lt hl.1 hl.2]
      omega
    · have ih := gl_bit b k m (by omega)
      split
      · rename_i h2
        rw [bit_of_sum _ _ _ _ (by omega), ih]
      · exact ih
theorem bit_getE (b : Nat → Int) (m : Nat) (h : m < 255) : bit (getE b 255) m = bbit b m := by
  unfold bit
  rw [getE_limb _ _ _ (by omega)]
  exact gl_bit b 255 m h
theorem pb_mod {y : E} (b : Nat → Int) (hL : ∀ j, 0 ≤ b j) (hb : ∀ m, m < 255 → bit y m = bbit b m) : ∀ k j, k ≤ 255 → pb y k j = b j % 2 ^ (min 8 (k - 8 * j))
  | 0, j, _ => by simp [pb, Int.emod_one]
  | k + 1, j, hk => by
    have ih := pb_mod b hL hb k j (by omega)
    simp only [pb]
    split
    · rename_i h
      have e1 : min 8 (k - 8 * j) = k % 8 := by omega
      have e2 : min 8 (k + 1 - 8 * j) = k % 8 + 1 := by omega
      rw [ih, e1, e2, hb k (by omega), bbit, ← h]
      have h2 := pow_pos2 (k % 8)
      have h3 : b j % 2 ^ (k % 8 + 1) = b j % 2 ^ (k % 8) + 2 ^ (k % 8) * (b j / 2 ^ (k % 8) % 2) := by
        rw [Int.pow_succ]
        generalize (2 : Int) ^ (k % 8) = q at *
        generalize b j = L
        have e3 : L / (q * 2) = L / q / 2 := Int.ediv_mul_of_nonneg (Int.le_of_lt h2)
        rw [Int.emod_def L (q * 2), e3, Int.emod_def L q, Int.emod_def (L / q) 2]
        grind
      rw [h3, Int.mul_comm]
    · rename_i h
      rw [ih]
      congr 2
      omega
theorem put_get {b : Nat → Int} (hr : ∀ j, 0 ≤ b j ∧ b j < 256) (h31 : b 31 < 128) (j : Nat) (hj : j < 32) : pb (getE b 255) 255 j = b j := by
  rw [pb_mod b (fun j => (hr j).1) (fun m hm => bit_getE b m hm) 255 j (Nat.le_refl _)]
  have h := hr j
  by_cases e : j = 31
  · subst e
    exact Int.emod_eq_of_lt h.1 h31
  · rw [show min 8 (255 - 8 * j) = 8 by omega]
    exact Int.emod_eq_of_lt h.1 h.2
/-- the sum of the bits -/
def sb (b : Nat → Int) : Nat → Int
  | 0 => 0
  | k + 1 => sb b k + bbit b k * 2 ^ k
def sy (b : Nat → Int) : Nat → Int
  | 0 => 0
  | k + 1 => sy b k + b k * 256 ^ k
theorem val_sb (b : Nat → Int) : ∀ k, k ≤ 255 → val (getE b k) = sb b k
  | 0, _ => rfl
  | k + 1, hk => by
    have ih := val_sb b k (by omega)
    simp only [sb]
    rw [← ih]
    have hi : k / 51 = 0 ∨ k / 51 = 1 ∨ k / 51 = 2 ∨ k / 51 = 3 ∨ k / 51 = 4 := by omega
    have hp : (2 : Int) ^ k = 2 ^ (51 * (k / 51)) * 2 ^ (k % 51) := by rw [← Int.pow_add]; congr 1; omega
    rw [hp]
    simp only [val, getE, gl]
    generalize (2 : Int) ^ (k % 51) = q
    generalize bbit b k = c
    rcases hi with e | e | e | e | e <;> rw [e] <;> simp <;> grind
theorem sb_sy {b : Nat → Int} (hr : ∀ j, 0 ≤ b j ∧ b j < 256) : ∀ j, sb b (8 * j) = sy b j
  | 0 => rfl
  | j + 1 => by
    have ih := sb_sy hr j
    have hp : ∀ t, (2 : Int) ^ (8 * j + t) = 256 ^ j * 2 ^ t := fun t => by
      rw [Int.pow_add, Int.pow_mul]
      rfl
    rw [show 8 * (j + 1) = 8 * j + 1 + 1 + 1 + 1 + 1 + 1 + 1 + 1 by omega]
    simp only [sb, sy]
    rw [ih, hp, hp, hp, hp, hp, hp, hp, show (2 : Int) ^ (8 * j) = 256 ^ j from by rw [Int.pow_mul]; rfl]
    have h := hr j
    simp only [bbit]
    rw [show (8 * j) / 8 = j by omega, show (8 * j + 1) / 8 = j by omega, show (8 * j + 2) / 8 = j by omega, show (8 * j + 3) / 8 = j by omega, show (8 * j + 4) / 8 = j by omega, show (8 * j + 5) / 8 = j by omega, show (8 * j + 6) / 8 = j by omega, show (8 * j + 7) / 8 = j by omega]
    rw [show (8 * j) % 8 = 0 by omega, show (8 * j + 1) % 8 = 1 by omega, show (8 * j + 2) % 8 = 2 by omega, show (8 * j + 3) % 8 = 3 by omega, show (8 * j + 4) % 8 = 4 by omega, show (8 * j + 5) % 8 = 5 by omega, show (8 * j + 6) % 8 = 6 by omega, show (8 * j + 7) % 8 = 7 by omega]
    have hb : b j = b j % 2 + b j / 2 % 2 * 2 + b j / 4 % 2 * 4 + b j / 8 % 2 * 8 + b j / 16 % 2 * 16 + b j / 32 % 2 * 32 + b j / 64 % 2 * 64 + b j / 128 % 2 * 128 := by omega
    generalize (256 : Int) ^ j = X
    generalize sy b j = Y
    simp only [Int.reducePow, Int.pow_zero, Int.ediv_one, Int.pow_one]
    generalize b j % 2 = t0 at *
    generalize b j / 2 % 2 = t1 at *
    generalize b j / 4 % 2 = t2 at *
    generalize b j / 8 % 2 = t3 at *
    generalize b j / 16 % 2 = t4 at *
    generalize b j / 32 % 2 = t5 at *
    generalize b j / 64 % 2 = t6 at *
    generalize b j / 128 % 2 = t7 at *
    rw [hb]
    grind
theorem sm_sy (b : Nat → Int) : ∀ k, Dg.sm (Dg.bd b) k = sy b (2 * k)
  | 0 => rfl
  | k + 1 => by
    have ih := sm_sy b k
    rw [show 2 * (k + 1) = 2 * k + 1 + 1 by omega]
    simp only [Dg.sm, sy]
    rw [ih, Dg.bd, Int.pow_succ, show (256 : Int) ^ (2 * k) = 65536 ^ k from by rw [Int.pow_mul]; rfl]
    grind
theorem sy_nn {b : Nat → Int} (hr : ∀ j, 0 ≤ b j ∧ b j < 256) : ∀ k, 0 ≤ sy b k
  | 0 => Int.le_refl _
  | k + 1 => by
    have ih := sy_nn hr k
    have h := Int.mul_nonneg (hr k).1 (Int.le_of_lt (show (0 : Int) < 256 ^ k from Int.pow_pos (by decide)))
    simp only [sy]
    omega
theorem val_get {b : Nat → Int} (hr : ∀ j, 0 ≤ b j ∧ b j < 256) : val (getE b 255) = sy b 31 + b 31 % 128 * 256 ^ 31 := by
  have h7 : ∀ K, sb b (K + 7) = sb b K + bbit b K * 2 ^ K + bbit b (K + 1) * 2 ^ (K + 1) + bbit b (K + 2) * 2 ^ (K + 2) + bbit b (K + 3) * 2 ^ (K + 3) + bbit b (K + 4) * 2 ^ (K + 4) + bbit b (K + 5) * 2 ^ (K + 5) + bbit b (K + 6) * 2 ^ (K + 6) := fun K => rfl
  have e8 : sb b 248 = sy b 31 := sb_sy hr 31
  rw [val_sb b 255 (Nat.le_refl _), h7 248, e8]
  have hr31 := (hr 31).1
  simp only [bbit, Nat.reduceDiv, Nat.reduceMod, Nat.reduceAdd]
  generalize sy b 31 = Y
  generalize b 31 = y at *
  have hb : y % 128 = y % 2 + y / 2 % 2 * 2 + y / 4 % 2 * 4 + y / 8 % 2 * 8 + y / 16 % 2 * 16 + y / 32 % 2 * 32 + y / 64 % 2 * 64 := by omega
  rw [hb]
  simp only [Int.reducePow, Int.pow_zero, Int.ediv_one, Int.pow_one]
  omega
theorem sm_get (b : Nat → Int) : Dg.sm (Dg.bd b) 16 = sy b 31 + b 31 * 256 ^ 31 := by
  rw [sm_sy b 16]
  rfl
theorem ok_same {b : Nat → Int} (hr : ∀ j, 0 ≤ b j ∧ b j < 256) : getOk b = lessB (Dg.bd b) pd := by
  have hD := getE_d b 255
  have hv := val_get hr
  have hs := sm_get b
  have hn := sy_nn hr 31
  have h31 := hr 31
  have hc := canon_spec hD.r
  unfold lessB
  rw [pd_sm, hs]
  unfold getOk
  by_cases h : b 31 < 128
  · have e1 : (b 31 / 128 == 1) = false := by simp; omega
    rw [show b 31 % 128 = b 31 by omega] at hv
    rw [e1, ← hv, Bool.not_false, Bool.true_and]
    by_cases hlt : val (getE b 255) < p
    · rw [decide_eq_true hlt]
      refine eqE_iff.2 (D.inj hc.1 hD ?_)
      have hnn : 0 ≤ val (getE b 255) := by
        rw [hv]
        have := Int.mul_nonneg h31.1 (show (0 : Int) ≤ 256 ^ 31 by decide)
        omega
      rw [hc.2, Int.emod_eq_of_lt hnn hlt]
    · rw [decide_eq_false hlt]
      cases hq : eqE (canon (getE b 255)) (getE b 255) with
      | false => rfl
      | true =>
        have h2 := hc.2
        rw [eqE_iff.1 hq] at h2
        exfalso
        apply hlt
        rw [h2]
        exact Int.emod_lt_of_pos _ (by decide)
  · have e1 : (b 31 / 128 == 1) = true := by simp; omega
    rw [e1, Bool.not_true, Bool.false_and]
    refine (decide_eq_false ?_).symm
    have h3 : (128 : Int) * 256 ^ 31 ≤ b 31 * 256 ^ 31 := Int.mul_le_mul_of_nonneg_right (by omega) (by decide)
    have h4 : p ≤ (128 : Int) * 256 ^ 31 := by decide
    omega
theorem ok_get {b : Nat → Int} (hr : ∀ j, 0 ≤ b j ∧ b j < 256) (hok : getOk b = true) : b 31 < 128 ∧ canon (getE b 255) = getE b 255 ∧ ∃ n, nv (getE b 255) = n ∧ ∀ j, j < 16 → Dg.bd b j = Dg.dg n j := by
  have hD := getE_d b 255
  have h31 := hr 31
  have h2 := hok
  unfold getOk at h2
  simp only [Bool.and_eq_true, Bool.not_eq_true', beq_eq_false_iff_ne] at h2
  have hlt : b 31 < 128 := by omega
  have hv := val_get hr
  have hs := sm_get b
  rw [show b 31 % 128 = b 31 by omega, ← hs] at hv
  have hless := ok_same hr
  rw [hok] at hless
  have hl : Dg.sm (Dg.bd b) 16 < p := by
    have := of_decide_eq_true hless.symm
    rwa [pd_sm] at this
  have hnn := (Dg.sm_lt 16 (Dg.bd_di hr)).1
  refine ⟨hlt, eqE_iff.1 h2.2, _, rfl, Dg.dig_of (Dg.bd_di hr) ?_⟩
  rw [nv_int, hv, Int.emod_eq_of_lt hnn hl]
end Fe
namespace Go.Proofs.YtjejibojcjfleaaGreat
open Go.RowKit
theorem lentF_lt {n : Nat} {b : Nat → Int} {j : Nat} (h : j < n) : lentF n b j = b j := if_pos h
theorem gets_s (g o n c : Nat) (b : Nat → Int) (hr : ∀ j, 0 ≤ b j ∧ b j < 256) (w : World) (hg : g < w.heap.size) (hc : ∀ j, j < n → w.cell? ⟨g, o + j, none⟩ = some (.int .u8 (b j))) :
    Calls Tryz.prog 3 #[.slice (some ⟨g, o, none⟩) n c] w (PostV (.bool true) w) := by
  by_cases h100 : 100 < n
  · exact gets_long _ n c h100 w
  · have hn : n ≤ 100 := by omega
    have hcb : ∀ w', Below w.heap.size w w' → ∀ j, j < n → w'.cell? ⟨g, o + j, none⟩ = some (.int .u8 (b j)) := fun w' hb j hj => (hb.cell (p := ⟨g, o + j, none⟩) hg).trans (hc j hj)
    have hL := lentBytes_s g o n c b (by omega) w hg hc
    have hK : ∀ w' g', RowB w' g' (n + 12) (n + 12) (lentF n b) → Below w.heap.size w w' → Calls Tryz.prog 9 #[.slice (some ⟨g', 0, none⟩) n (n + 12), .slice (some ⟨g, o, none⟩) n c] w' fun e w'' => e = .returned (.bool true) ∧ Below w'.heap.size w' w'' := fun w' g' hR hb =>
      keptBytes_s g' g o n c b (by omega) w' hR (Nat.lt_of_lt_of_le hg hb.size) (hcb w' hb)
    by_cases h32 : n = 32
    · subst h32
      have hGc : ∀ w' g', RowB w' g' (32 + 12) (32 + 12) (lentF 32 b) → ∀ j, j < 32 → w'.cell? ⟨g', 0 + j, none⟩ = some (.int .u8 (b j)) := fun w' g' hR j hj => by
        rw [Nat.zero_add, hR.cell j (by omega), lentF_lt hj]
      have hok := Fe.ok_same hr
      have hRd := fun w' (hb : Below w.heap.size w w') => read_s b g o c w' (hcb w' hb) hr (Nat.lt_of_lt_of_le hg hb.size)
      rw [← hok] at hRd
      cases hk : getOk b with
      | false =>
        rw [hk] at hRd
        refine gets_F _ 32 c b (by omega) (readF b) w hL (fun w' g' hR => ?_) hRd hK
        exact get_Ec b g' 0 (32 + 12) w' (hGc w' g' hR) hr hR.lt ⟨0, 0, 0, 0, 0⟩ false hk.symm (by simp)
      | true =>
        rw [hk] at hRd
        obtain ⟨h31, hcan, n, hnv, hdg⟩ := Fe.ok_get hr hk
        have hD := Fe.getE_d b 255
        have hN : av (readF b) = av (Dg.dg n) := av_congr fun j hj => by
          unfold readF
          rw [← hok, hk, if_pos rfl]
          exact hdg j hj
        refine gets_T _ c b (Fe.getE b 255) (Dg.dg n) (Fe.pb (Fe.canon (Fe.getE b 255)) 255) w hL (fun w' g' hR => ?_) (fun w' hb => ?_) hK (fun w' => is_c _ hD.r n hnv w') (fun w' => put_B _ hD.w w') (fun w' g' hB hb => ?_)
        · exact get_Ec b g' 0 (32 + 12) w' (hGc w' g' hR) hr hR.lt (Fe.getE b 255) true hk.symm (by simp)
        · refine (hRd w' hb).mono fun e w'' h => ?_
          obtain ⟨h1, h2⟩ := h
          rw [hN] at h1
          exact ⟨h1, h2⟩
        · have hs := sameBytes_c g' 0 32 32 g o c 32 (Fe.pb (Fe.canon (Fe.getE b 255)) 255) b (by decide) (by decide) w' (byV_cell hB) (hcb w' hb) hB.lt (Nat.lt_of_lt_of_le hg hb.size)
          rw [show sameB 32 32 (Fe.pb (Fe.canon (Fe.getE b 255)) 255) b = true from decide_eq_true ⟨rfl, fun j hj => by rw [hcan]; exact Fe.put_get hr h31 j hj⟩] at hs
          exact hs
    · exact gets_F _ n c b hn (fun _ => 0) w hL (fun w' g' _ => get_x (some ⟨g', 0, none⟩) n (n + 12) h32 w') (fun w' _ => read_x _ n h32 (by omega) (.inr ⟨_, c, rfl⟩) w') hK
theorem gets_0 (w : World) : Calls Tryz.prog 3 #[.slice none 0 0] w (PostV (.bool true) w) :=
  gets_F none 0 0 (fun _ => 0) (by omega) (fun _ => 0) w (lentBytes_0 0 _ rfl w) (fun w' g' _ => get_x (some ⟨g', 0, none⟩) 0 (0 + 12) (by decide) w') (fun w' _ => read_x _ 0 (by decide) (by decide) (.inl ⟨rfl, rfl⟩) w') (fun w' g' hR _ => keptBytes_0 g' _ w' hR)
end Go.Proofs.YtjejibojcjfleaaGreat
namespace Go.Proofs.YtjejibojcjfleaaGreat
open Go.RowKit
set_option maxRecDepth 20000 in
set_option maxRecDepth 20000 in
set_option maxHeartbeats 2000000 in
theorem lentBytes_e (ad : Addr) (n : Nat) (b : Nat → Int) (hn : n = 0) (w : World) :
    Calls Tryz.prog 6 #[.slice (some ad) 0 0] w (PostLent n b w) := by
  have hfin : ∀ w', RowB w' w.heap.size (n + 12) (n + 12) (lentF n b) → Below w.heap.size w w' → PostLent n b w (.returned (.slice (some ⟨w.heap.size, 0, none⟩) n (n + 12))) w' := fun w' h1 h2 => ⟨_, rfl, Nat.le_refl _, h1, h2⟩
  have hl : ∀ j, j < n → lentF n b j = b j := fun j hj => by unfold lentF; rw [if_pos hj]
  have hm : ∀ k : Nat, lentF n b (n + k) = mb 1 k := fun k => by unfold lentF; rw [if_neg (by omega), Nat.add_sub_cancel_left]
  generalize lentF n b = L at *
  subst hn
  obtain ⟨i0, hi, hz0, hz1, hz2⟩ := info_parts u8_infoK
  replace hfin := Lib.hid hfin
  replace hl := Lib.hid hl
  replace hm : ∀ k : Nat, L k = mb 1 k := fun k => by have := hm k; rwa [Nat.zero_add] at this
  replace hm := Lib.hid hm
  replace hz1 := Lib.hid hz1
  replace hz2 := Lib.hid hz2
  replace hz0 := Lib.hid hz0
  replace hi := Lib.hid hi
  go_enter Tryz.func6, Tryz.ntmps6
  go_wp2_with (first
    | (refine wpList_make_own _ rfl _ _ 22 rfl w.heap.size 5 i0 (.int .u8 0) 1 bs_underK hi.out hz0.out hz1.out .i64 .i64 _ 12 rfl rfl (by omega) (by rw [hz2.out]; omega) (by unfold maxLen; omega) (Nat.le_refl _) ?_; intro w1 hO1 hgr1; have hR1 : RowB w1 w.heap.size 0 12 (fun _ => 0) := rowB_of hO1; have hb1 : Below w.heap.size w w1 := (Below.refl _ _).grown hgr1 (Nat.le_refl _) (fun k hk => by cases hk); clear hgr1 hO1)
    | (refine wpList_app rfl rfl rfl hR1 rfl L (fun i hi => absurd hi (by omega)) (fun j hj => absurd hj (by omega)) (by omega) ?_; intro g2 c2 w2 hR2 hgr2 hcase2; have hg2 : g2 = w.heap.size ∧ c2 = 12 := (by rcases hcase2 with h | h; exact ⟨h.1, h.2.1⟩; omega); obtain ⟨hg2a, hg2b⟩ := hg2; subst hg2a hg2b; have hb2 : Below w.heap.size w w2 := hb1.grown hgr2 hb1.size (fun k hk => by injection hk; omega); clear hgr2 hcase2 hR1 hb1))
  go_loopw [3, 4] (fun v i wr => ∃ k : Nat, k ≤ 12 ∧ i = .int .i64 k ∧ v = .slice (some ⟨w.heap.size, 0, none⟩) k 12 ∧ RowB wr w.heap.size k 12 L ∧ Below w.heap.size w wr) (fun _ i _ => (12 - intOf i).toNat)
  case atStart => exact ⟨0, by decide, rfl, rfl, hR2, hb2⟩
  case round =>
    clear hR2 hb2
    obtain ⟨k, hk, hi', hv, hR, hb⟩ := hrel
    subst hi' hv
    by_cases h12 : k = 12
    · subst h12
      have hP := Lib.hid (hfin.out wr hR hb)
      clear hk hR hb
      go_wp2
      go_returns
      exact hP.out
    · have hk0 : (0 : Int) ≤ (k : Int) := by omega
      have hk1 : (k : Int) < 12 := by omega
      have hmk := hm.out k
      clear hk h12
      go_wp2_with fail
      refine (markByte_c 1 k (by omega) (by omega) _).mono ?_
      rintro e w3 ⟨rfl, rfl⟩
      have hRa : RowB (wr.alloc (Obj.cells #[.int .u8 (mb 1 k)] 5)) w.heap.size k 12 L := hR.below ((Below.refl _ _).alloc (Nat.le_refl _) _)
      have hba : Below w.heap.size w (wr.alloc (Obj.cells #[.int .u8 (mb 1 k)] 5)) := hb.alloc hb.size _
      have hca : ∀ j, j < 1 → (wr.alloc (Obj.cells #[.int .u8 (mb 1 k)] 5)).cell? ((⟨wr.heap.size, 0, none⟩ : Addr).add j) = some (.int .u8 (L (k + j))) := fun j hj => by
        obtain rfl : j = 0 := by omega
        rw [add_o, show k + 0 = k from rfl, hmk]
        exact (Blk.new wr _ _).cell 0
      replace hmk := Lib.hid hmk
      generalize mb 1 k = x at *
      clear hR hb
      go_wp2_with (refine wpList_app rfl rfl rfl hRa rfl L (fun i hi => rfl) hca (by omega) ?_; intro g2 c2 w4 hR4 hgr4 hcase4; have hg4 : g2 = w.heap.size ∧ c2 = 12 := (by rcases hcase4 with h | h; exact ⟨h.1, h.2.1⟩; omega); obtain ⟨hg4a, hg4b⟩ := hg4; subst hg4a hg4b; have hb4 : Below w.heap.size w w4 := hba.grown hgr4 hba.size (fun k hk => by injection hk; omega); clear hgr4 hcase4 hca hRa hba)
      exact ⟨⟨k + 1, by omega, rfl, rfl, hR4, hb4⟩, by simp [intOf]; omega⟩

set_option maxRecDepth 20000 in
set_option maxRecDepth 20000 in
set_option maxHeartbeats 2000000 in
theorem keptBytes_e (ad : Addr) (g0 : Nat) (b : Nat → Int) (w : World) (hR : RowB w g0 12 12 (lentF 0 b)) :
    Calls Tryz.prog 9 #[.slice (some ⟨g0, 0, none⟩) 0 12, .slice (some ad) 0 0] w fun e w' => e = .returned (.bool true) ∧ Below w.heap.size w w' := by
  have hm : ∀ k : Nat, lentF 0 b k = mb 1 k := fun k => by unfold lentF; rw [if_neg (by omega), Nat.sub_zero]
  generalize lentF 0 b = L at *
  have hcR := hR.cell
  replace hm := Lib.hid hm
  replace hcR := Lib.hid hcR
  have hRlt := hR.lt
  clear hR
  go_enter Tryz.func9, Tryz.ntmps9
  go_wp2
  go_loopw [6] (fun i wr => ∃ k : Nat, k ≤ 12 ∧ i = .int .i64 k ∧ Below w.heap.size w wr) (fun i _ => (12 - intOf i).toNat)
  case atStart => exact ⟨0, by omega, rfl, Below.refl _ _⟩
  case round =>
    obtain ⟨k, hk, hi', hb⟩ := hrel
    subst hi'
    have hk0 : (0 : Int) ≤ (k : Int) := by omega
    by_cases hend : k = 12
    · have hk1 : (k : Int) = 12 := by omega
      subst hend
      go_wp2
      go_returns
      exact ⟨rfl, hb⟩
    · have hk1 : (k : Int) < 12 := by omega
      have hk2 : k < 12 := by omega
      have cR := (hb.cell (p := ⟨g0, k, none⟩) hRlt).trans (hcR.out k (by omega))
      rw [hm.out k] at cR
      have hmc : ∀ q, Calls Tryz.prog 24 #[.int .i64 1, .int .i64 k] (wr.drewN q) fun e w'' => e = .returned (.int .u8 (mb 1 k)) ∧ ∃ m, w'' = wr.drewN m := fun q => (markByte_c 1 k (by omega) (by omega) _).mono fun _ _ h => ⟨h.1, q, h.2.symm⟩
      have hx : (mb 1 k == mb 1 k) = true := beq_self_eq_true _
      replace hmc := Lib.hid hmc
      have hkn2 : decide ((k : Int) < 0) = false := decide_eq_false (by omega)
      have hkn3 : decide ((0 : Int) ≤ (k : Int)) = true := decide_eq_true hk0
      clear hk hend
      generalize mb 1 (k : Int) = x at *
      go_wp2
      go_quiet (first | (exact hmc.out _))
      go_wp2
      exact ⟨⟨k + 1, by omega, by rw [Int.natCast_add]; rfl, hb.trans (kdrewN (Below.refl _ _) _)⟩, by simp [intOf]; omega⟩
theorem gets_e (ad : Addr) (w : World) : Calls Tryz.prog 3 #[.slice (some ad) 0 0] w (PostV (.bool true) w) :=
  gets_F (some ad) 0 0 (fun _ => 0) (by omega) (fun _ => 0) w (lentBytes_e ad 0 _ rfl w) (fun w' g' _ => get_x (some ⟨g', 0, none⟩) 0 (0 + 12) (by decide) w') (fun w' _ => read_x _ 0 (by decide) (by decide) (.inr ⟨_, _, rfl⟩) w') (fun w' g' hR _ => keptBytes_e ad g' _ w' hR)
end Go.Proofs.YtjejibojcjfleaaGreat
