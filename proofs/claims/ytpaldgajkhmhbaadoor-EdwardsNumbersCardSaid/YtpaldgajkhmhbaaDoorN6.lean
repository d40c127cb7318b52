/- The walks of power, Invert, half and Odd of the reference. -/
import Derived.Test.YtpaldgajkhmhbaaDoorN5
import Derived.Test.YtpaldgajkhmhbaaDoorFh
namespace Dg
open Fe (P)
/-- bit k of a number -/
def bt (e k : Nat) : Bool := decide (e / 2 ^ k % 2 = 1)
theorem bt_dg (e k : Nat) : dg e (k / 16) / 2 ^ (k % 16) % 2 = (e / 2 ^ k % 2 : Nat) := by
  unfold dg
  have h1 : ((e / 65536 ^ (k / 16) % 65536 : Nat) : Int) / 2 ^ (k % 16) % 2 = ((e / 65536 ^ (k / 16) % 65536 / 2 ^ (k % 16) % 2 : Nat) : Int) := by
    rw [Int.natCast_emod, Int.natCast_ediv, Int.natCast_pow]
    rfl
  rw [h1]
  congr 1
  have e16 : (65536 : Nat) ^ (k / 16) = 2 ^ (16 * (k / 16)) := by rw [Nat.pow_mul]
  have hk : 2 ^ k = 2 ^ (16 * (k / 16)) * 2 ^ (k % 16) := by rw [← Nat.pow_add]; congr 1; omega
  rw [e16, hk, ← Nat.div_div_eq_div_mul]
  generalize e / 2 ^ (16 * (k / 16)) = y
  have h16 : 65536 = 2 ^ (k % 16) * (2 ^ (15 - k % 16) * 2) := by
    rw [← Nat.pow_succ, ← Nat.pow_add, show k % 16 + (15 - k % 16 + 1) = 16 by omega]
  rw [h16, Nat.mod_mul_right_div_self, Nat.mul_comm (2 ^ (15 - k % 16)) 2, Nat.mod_mul_right_mod]
theorem pow_bit0 {e k : Nat} (h : bt e k = false) : e / 2 ^ k = e / 2 ^ (k + 1) + e / 2 ^ (k + 1) := by
  have : ¬ e / 2 ^ k % 2 = 1 := by simpa [bt] using h
  rw [Nat.pow_succ, ← Nat.div_div_eq_div_mul]
  omega
theorem pow_bit1 {e k : Nat} (h : bt e k = true) : e / 2 ^ k = e / 2 ^ (k + 1) + e / 2 ^ (k + 1) + 1 := by
  have : e / 2 ^ k % 2 = 1 := by simpa [bt] using h
  rw [Nat.pow_succ, ← Nat.div_div_eq_div_mul]
  omega
def pv (a e c : Nat) : Nat := a ^ (e / 2 ^ c) % P
theorem P0 : 0 < P := by unfold P; decide
theorem pv_lt (a e c : Nat) : pv a e c < P := Nat.mod_lt _ P0
theorem pv_256 {a e : Nat} (he : e < 2 ^ 256) : pv a e 256 = 1 := by
  unfold pv
  rw [Nat.div_eq_of_lt he, Nat.pow_zero]
  unfold P
  decide
theorem pv_zero (a e : Nat) : pv a e 0 = a ^ e % P := by unfold pv; rw [Nat.pow_zero, Nat.div_one]
theorem pv_0 {a e k : Nat} (h : bt e k = false) : pv a e (k + 1) * pv a e (k + 1) % P = pv a e k := by
  unfold pv
  rw [← Nat.mul_mod, ← Nat.pow_add, ← pow_bit0 h]
theorem pv_1 {a e k : Nat} (h : bt e k = true) : pv a e (k + 1) * pv a e (k + 1) % P * a % P = pv a e k := by
  unfold pv
  rw [← Nat.mul_mod, ← Nat.pow_add, Nat.mod_mul_mod, ← Nat.pow_succ, Nat.succ_eq_add_one, ← pow_bit1 h]
end Dg
namespace Go.Proofs.YtpaldgajkhmhbaaDoor
open Go.RowKit
theorem bit_and (e k : Nat) : (bits .and .u64 (Dg.dg e (k / 16) / 2 ^ (k % 16)) 1 == 1) = Dg.bt e k := by
  have hd := Dg.dg_lt e (k / 16)
  have h2 : (0 : Int) < 2 ^ (k % 16) := Int.pow_pos (by decide)
  have hq0 : 0 ≤ Dg.dg e (k / 16) / 2 ^ (k % 16) := Int.ediv_nonneg hd.1 (by omega)
  have hq1 : Dg.dg e (k / 16) / 2 ^ (k % 16) ≤ Dg.dg e (k / 16) := Int.ediv_le_self _ hd.1
  rw [and1_u64 _ hq0 (by omega), Dg.bt_dg]
  unfold Dg.bt
  by_cases h : e / 2 ^ k % 2 = 1
  · rw [h, decide_eq_true rfl]
    rfl
  have h0 : e / 2 ^ k % 2 = 0 := by omega
  rw [h0]
  rfl
set_option maxRecDepth 20000 in
set_option maxHeartbeats 2000000 in
theorem rPow_c (a e : Nat) (ha : a < Fe.P) (he : e < 2 ^ 256) (w : World) : Calls Tryd.prog 87 #[.agg (av (Dg.dg a)), .agg (av (Dg.dg e))] w (PostN (Dg.dg (a ^ e % Fe.P)) w) := by
  have h0 : ∀ w, Calls Tryd.prog 89 #[.int .u64 1] w (PostN (Dg.dg (Dg.pv a e 256)) w) := fun w => by
    rw [Dg.pv_256 he]
    exact rSmall_c 1 (by decide) w
  have h1 := fun k => rMul_c (Dg.pv a e (k + 1)) (Dg.pv a e (k + 1)) (Dg.pv_lt _ _ _) (Dg.pv_lt _ _ _)
  have h2 : ∀ k, Dg.bt e k = true → _ := fun k h w => by
    have := rMul_c (Dg.pv a e (k + 1) * Dg.pv a e (k + 1) % Fe.P) a (Nat.mod_lt _ Dg.P0) ha w
    rw [Dg.pv_1 h] at this
    exact this
  have h3 := fun k (h : Dg.bt e k = false) => congrArg Dg.dg (Dg.pv_0 (a := a) h)
  have hb := bit_and e
  have hB0 := fun j => Dg.dg_lt e j
  rw [← Dg.pv_zero]
  obtain ⟨X, hX⟩ : ∃ X : Nat → Nat → Int, X = fun c => Dg.dg (Dg.pv a e c) := ⟨_, rfl⟩
  obtain ⟨Y, hY⟩ : ∃ Y : Nat → Nat → Int, Y = fun k => Dg.dg (Dg.pv a e (k + 1) * Dg.pv a e (k + 1) % Fe.P) := ⟨_, rfl⟩
  have h0 : ∀ w, Calls Tryd.prog 89 #[.int .u64 1] w (PostN (X 256) w) := by rw [hX]; exact h0
  have h1 : ∀ k w, Calls Tryd.prog 60 #[.agg (av (X (k + 1))), .agg (av (X (k + 1)))] w (PostN (Y k) w) := by rw [hX, hY]; exact h1
  have h2 : ∀ k, Dg.bt e k = true → ∀ w, Calls Tryd.prog 60 #[.agg (av (Y k)), .agg (av (Dg.dg a))] w (PostN (X k) w) := by rw [hX, hY]; exact h2
  have h3 : ∀ k, Dg.bt e k = false → Y k = X k := by rw [hX, hY]; exact h3
  have hg : Dg.dg (Dg.pv a e 0) = X 0 := by rw [hX]
  rw [hg]
  clear hX hY hg ha he
  generalize Dg.dg a = A at *
  generalize Dg.dg e = E at *
  generalize Dg.bt e = bt at *
  replace h0 := Lib.hid h0
  replace h1 := Lib.hid h1
  replace h2 := Lib.hid h2
  replace h3 := Lib.hid h3
  replace hb := Lib.hid hb
  replace hB0 := Lib.hid hB0
  go_enter Tryd.func87, Tryd.ntmps87
  go_wp2_with fail
  refine calls_at (fun W0 hW => ?_)
  have hA : Blk W0 (w.heap.size) 33 (av A) := by rw [hW]; exact ((Blk.new _ _ _).alloc _).alloc _
  have hE : Blk W0 (w.heap.size + 1) 33 (av E) := by rw [hW]; exact blk_at (by simp) ((Blk.new _ _ _).alloc _)
  have hZ : Blk W0 (w.heap.size + 1 + 1) 33 (av fun _ => 0) := by rw [hW]; exact blk_at (by simp) (Blk.new _ _ _)
  have hb0 : Below w.heap.size w W0 := by rw [hW]; go_grown
  clear hW
  refine (h0.out _).mono ?_
  rintro e1 w1 ⟨rfl, hb1⟩
  replace hA := hA.below hb1
  replace hE := hE.below hb1
  replace hZ := hZ.below hb1
  replace hb0 := hb0.trans (hb1.mono hb0.size)
  have hzlt := hZ.lt
  clear hb1
  go_wp2_with (refine stN (old := fun _ => 0) rfl rfl rfl rfl (Blk.new _ _ _) ?_; intro W1 hO hgr hsz)
  replace hA := (hA.alloc _).grown hgr (fun h => by injection h; omega)
  replace hE := (hE.alloc _).grown hgr (fun h => by injection h; omega)
  replace hZ := (hZ.alloc _).grown hgr (fun h => by injection h; omega)
  replace hb0 := (hb0.alloc hb0.size _).grown hgr (Nat.le_trans hb0.size (by simp)) (fun k h => by injection h; omega)
  clear hgr hsz
  generalize w1.heap.size = g at *
  go_loopw [6] (fun i wr => ∃ c : Nat, c ≤ 256 ∧ i = .int .i64 ((c : Int) - 1) ∧ Blk wr w.heap.size 33 (av A) ∧ Blk wr (w.heap.size + 1) 33 (av E) ∧ Blk wr (w.heap.size + 1 + 1) 33 (av fun _ => 0) ∧ Blk wr g 33 (av (X c)) ∧ Below w.heap.size w wr) (fun i _ => (1 + intOf i).toNat)
  case atStart => exact ⟨256, by decide, rfl, hA, hE, hZ, hO, hb0⟩
  case round =>
    clear hA hE hZ hO hb0
    obtain ⟨c, hc, hi, hA, hE, hZ, hO, hb0⟩ := hrel
    subst hi
    by_cases hc0 : c = 0
    · subst hc0
      clear hc
      go_wp2_with (first | (refine ldN rfl rfl rfl hO ?_) | (refine stN rfl rfl rfl rfl hZ ?_; intro w3 hnew hgr hsz))
      exact retN rfl rfl hnew rfl ⟨rfl, hb0.grown hgr hb0.size (fun k h => by injection h; omega)⟩
    obtain ⟨k, rfl⟩ : ∃ k, c = k + 1 := ⟨c - 1, by omega⟩
    rw [show (((k + 1 : Nat) : Int) - 1) = (k : Int) by omega]
    have hk0 : (0 : Int) ≤ (k : Int) := by omega
    have hk1 : (k : Int) < 256 := by omega
    have hk16 : k / 16 < 16 := by omega
    have hbk := hb.out k
    have hBk := hB0.out (k / 16)
    clear hc hc0
    go_wp2_with (refine ldN rfl rfl rfl hO ?_)
    refine (h1.out k _).mono ?_
    rintro e1 w2 ⟨rfl, hb2⟩
    replace hA := hA.below hb2
    replace hE := hE.below hb2
    replace hZ := hZ.below hb2
    replace hO := hO.below hb2
    replace hb0 := hb0.trans (hb2.mono hb0.size)
    clear hb2
    by_cases hbt : bt k = true
    · rw [hbt] at hbk
      have h2k := Lib.hid (h2.out k hbt)
      replace hbt := Lib.hid hbt
      go_wp2_with (first
        | (refine stN rfl rfl rfl (f := Y k) rfl hO ?_; intro w3 hO3 hgr hsz; have hE3 := hE.grown hgr (fun h => by injection h; omega); have ce := hE3.cell (k / 16); rw [av_get _ _ hk16] at ce; have hA3 := hA.grown hgr (fun h => by injection h; omega); have hZ3 := hZ.grown hgr (fun h => by injection h; omega); have hb3 := hb0.grown hgr hb0.size (fun k h => by injection h; omega); clear hgr hsz)
        | (refine ldN rfl rfl rfl (f := Y k) (by assumption) ?_) | (refine ldN rfl rfl rfl (f := A) (by assumption) ?_))
      refine (h2k.out _).mono ?_
      rintro e1 w4 ⟨rfl, hb4⟩
      replace hA3 := hA3.below hb4
      replace hE3 := hE3.below hb4
      replace hZ3 := hZ3.below hb4
      replace hO3 := hO3.below hb4
      replace hb3 := hb3.trans (hb4.mono hb3.size)
      clear hA hE hZ hO hb0 ce hb4
      go_wp2_with (refine stN rfl rfl rfl (f := X k) rfl hO3 ?_; intro w5 hO5 hgr hsz; replace hA3 := hA3.grown hgr (fun h => by injection h; omega); replace hE3 := hE3.grown hgr (fun h => by injection h; omega); replace hZ3 := hZ3.grown hgr (fun h => by injection h; omega); replace hb3 := hb3.grown hgr hb3.size (fun k h => by injection h; omega); clear hgr hsz hO3)
      exact ⟨⟨k, by omega, rfl, hA3, hE3, hZ3, hO5, hb3⟩, by simp [intOf]; omega⟩
    have hbf : bt k = false := by simpa using hbt
    rw [hbf] at hbk
    have h3k := h3.out k hbf
    clear hbt hbf
    rw [h3k]
    go_wp2_with (refine stN rfl rfl rfl (f := X k) rfl hO ?_; intro w3 hO3 hgr hsz; have hE3 := hE.grown hgr (fun h => by injection h; omega); have ce := hE3.cell (k / 16); rw [av_get _ _ hk16] at ce; have hA3 := hA.grown hgr (fun h => by injection h; omega); have hZ3 := hZ.grown hgr (fun h => by injection h; omega); have hb3 := hb0.grown hgr hb0.size (fun k h => by injection h; omega); clear hgr hsz)
    exact ⟨⟨k, by omega, rfl, hA3, hE3, hZ3, hO3, hb3⟩, by simp [intOf]; omega⟩
theorem P_di (k : Nat) (hk : k < 65536) : Dg.Di (Dg.up pd 0 k) 16 ∧ Dg.sm (Dg.up pd 0 k) 16 = Fe.p + (k : Int) - 65517 := by
  refine ⟨fun j hj => ?_, ?_⟩
  · unfold Dg.up
    split
    · omega
    exact pd_di j hj
  rw [Dg.sm_up, if_pos (by decide), pd_sm, show pd 0 = 65517 from rfl]
  omega
set_option maxRecDepth 20000 in
set_option maxHeartbeats 2000000 in
theorem rInv_c (a : Nat) (ha : a < Fe.P) (w : World) : Calls Tryd.prog 66 #[.agg (av (Dg.dg a))] w (PostN (Dg.dg (a ^ (Fe.P - 2) % Fe.P)) w) := by
  have hp := rPow_c a (Fe.P - 2) ha (by unfold Fe.P; decide)
  have hd : ∀ j, j < 16 → Dg.up pd 0 65515 j = Dg.dg (Fe.P - 2) j := by
    have h := P_di 65515 (by decide)
    refine Dg.dig_of h.1 (h.2.trans ?_)
    unfold Fe.p Fe.P
    rfl
  rw [← av_congr hd] at hp
  have hPc := p_c
  have hpd := pd_di 0 (by decide)
  have h0 : pd 0 = 65517 := rfl
  generalize Dg.dg a = A at *
  generalize Dg.dg (a ^ (Fe.P - 2) % Fe.P) = z at *
  clear hd
  generalize pd = q at *
  replace hp := Lib.hid hp
  replace hPc := Lib.hid hPc
  go_enter Tryd.func66, Tryd.ntmps66
  go_wp2_with fail
  refine calls_at (fun W0 hW => ?_)
  have hA : Blk W0 (w.heap.size) 33 (av A) := by rw [hW]; exact (Blk.new _ _ _).alloc _
  have hZ : Blk W0 (w.heap.size + 1) 33 (av fun _ => 0) := by rw [hW]; exact blk_at (by simp) (Blk.new _ _ _)
  have hb0 : Below w.heap.size w W0 := by rw [hW]; go_grown
  clear hW
  refine (hPc.out _).mono ?_
  rintro e1 w1 ⟨rfl, hb1⟩
  replace hA := hA.below hb1
  replace hZ := hZ.below hb1
  replace hb0 := hb0.trans (hb1.mono hb0.size)
  have hzlt := hZ.lt
  clear hb1
  go_wp2_with (first
    | (refine stN (old := fun _ => 0) rfl rfl rfl (f := q) rfl (Blk.new _ _ _) ?_; intro W1 hO hgr hsz; replace hA := (hA.alloc _).grown hgr (fun h => by injection h; omega); replace hZ := (hZ.alloc _).grown hgr (fun h => by injection h; omega); replace hb0 := (hb0.alloc hb0.size _).grown hgr (Nat.le_trans hb0.size (by simp)) (fun k h => by injection h; omega); clear hgr hsz; have c0 := hO.cell 0; rw [av_get _ _ (by decide), h0] at c0; have hfr := fun j => hO.frozen j)
    | (refine ldN rfl rfl rfl (f := A) (hA.far (by show _ ≠ w1.heap.size; omega) _) ?_)
    | (refine ldN rfl rfl rfl (f := Dg.up q 0 65515) (av_set q 0 65515 (by decide) ▸ hO.set_ 0 (.int .u64 65515)) ?_))
  refine calls_at (fun W2 hW => ?_)
  replace hA := hA.far (p := ⟨w1.heap.size, 0, none⟩) (by show _ ≠ w1.heap.size; omega) (.int .u64 65515)
  replace hZ := hZ.far (p := ⟨w1.heap.size, 0, none⟩) (by show _ ≠ w1.heap.size; omega) (.int .u64 65515)
  replace hb0 := hb0.setCell (p := ⟨w1.heap.size, 0, none⟩) (by show w.heap.size ≤ w1.heap.size; omega) (.int .u64 65515)
  rw [← hW] at hA hZ hb0
  clear hW
  refine (hp.out _).mono ?_
  rintro e1 w3 ⟨rfl, hb3⟩
  replace hZ := hZ.below hb3
  replace hb0 := hb0.trans (hb3.mono hb0.size)
  go_wp2_with (refine stN rfl rfl rfl rfl hZ ?_; intro w4 hnew hgr hsz)
  exact retN rfl rfl hnew rfl ⟨rfl, hb0.grown hgr hb0.size (fun k h => by injection h; omega)⟩
end Go.Proofs.YtpaldgajkhmhbaaDoor
