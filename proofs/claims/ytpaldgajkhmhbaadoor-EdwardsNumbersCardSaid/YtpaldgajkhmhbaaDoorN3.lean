/- The walk of whole. -/
import Derived.Test.YtpaldgajkhmhbaaDoorN2
import Derived.Deep.LoopGhost
namespace Dg
theorem ps_zero (t : Nat → Int) : ps t 0 = t := by unfold ps; rfl
theorem rs_zero (t : Nat → Int) : rs t 0 = t := by unfold rs; rfl
theorem ps_succ (t : Nat → Int) (k : Nat) : ps t (k + 1) = cs (ps t k) k := by rw [ps]
theorem rs_succ (t : Nat → Int) (k : Nat) : rs t (k + 1) = ps (rs t k) 16 := by rw [rs]
def rr (t : Nat → Int) (k m : Nat) : Nat → Int := ps (rs t k) m
theorem rounds_ex {t : Nat → Int} (ht : Bd t) : ∃ r : Nat → Nat → Nat → Int, r 0 0 = t ∧ (∀ k, r k 16 = r (k + 1) 0) ∧ (Di (r 6 0) 16 ∧ sm (r 6 0) 16 % Fe.p = sm t 16 % Fe.p) ∧
    (∀ k m, m < 15 → up (up (r k m) m (r k m m % 65536)) (m + 1) (r k m (m + 1) + r k m m / 65536) = r k (m + 1)) ∧
    (∀ k, up (up (r k 15) 15 (r k 15 15 % 65536)) 0 (r k 15 0 + 38 * (r k 15 15 / 65536)) = r k 16) ∧
    (∀ k m, m ≤ 15 → 0 ≤ r k m m ∧ r k m m < 1152956688978935808) ∧ (∀ k m, m < 15 → 0 ≤ r k m (m + 1) ∧ r k m (m + 1) < 1152921504606846976) ∧ (∀ k, 0 ≤ r k 15 0 ∧ r k 15 0 < 65536) := by
  refine ⟨rr t, ?_, fun k => ?_, ?_, fun k m h => ?_, fun k => ?_, fun k m h => ?_, fun k m h => ?_, fun k => ?_⟩
  · rw [rr, rs_zero, ps_zero]
  · rw [rr, rr, rs_succ, ps_zero]
  · rw [rr, ps_zero]; exact whole_spec ht
  · rw [rr, rr, ps_succ, cs, if_pos h]
  · rw [rr, rr, ps_succ (rs t k) 15, cs, if_neg (by omega)]
  · rw [rr]; exact (ps_pi (rs_bd ht k) m h).2.1
  · rw [rr]; exact (ps_pi (rs_bd ht k) m (by omega)).2.2 (m + 1) (by omega) (by omega)
  rw [rr]; exact (ps_pi (rs_bd ht k) 15 (by omega)).1 0 (by omega)
end Dg
namespace Go.Proofs.YtpaldgajkhmhbaaDoor
open Go.RowKit
/-- what parts stand for, modulo p -/
def nf (f : Nat → Int) : Nat := (Dg.sm f 16 % Fe.p).toNat
theorem nf_int (f : Nat → Int) : (nf f : Int) = Dg.sm f 16 % Fe.p := by unfold nf Fe.p; omega
theorem dg_nf {f : Nat → Int} {n : Nat} (h : Dg.sm f 16 % Fe.p = n) : nf f = n := by have := nf_int f; omega
theorem nf_end {f t : Nat → Int} (hD : Dg.Di f 16) (hm : Dg.sm f 16 % Fe.p = Dg.sm t 16 % Fe.p) (hl : Dg.sm f 16 < Fe.p) : ∀ j, j < 16 → f j = Dg.dg (nf t) j := by
  refine Dg.dig_of hD ?_
  rw [nf_int, ← hm, Int.emod_eq_of_lt (Dg.sm_lt 16 hD).1 hl]
def whTL (fx pq : Nat → Int) : List (Value → World → Prop) := [
  Eq1 (.agg (av fx)),
  Eq1 (.agg (av pq)),
  Eq1 (.bool true),
  Eq1 (.bool false)]
theorem whTS (fx pq : Nat → Int) : ∀ j x' q q', (whTL fx pq).getD j (fun _ _ => True) x' q → Below q.heap.size q q' → (whTL fx pq).getD j (fun _ _ => True) x' q' := by
  refine sta_all _ ?_
  simp only [whTL, List.mem_cons, forall_eq_or_imp, List.not_mem_nil, false_implies, implies_true, and_true]
  exact ⟨sta_eq _, sta_eq _, sta_eq _, sta_eq _⟩
def whFL (fx pq : Nat → Int) : List (Value → World → Prop) := [
  Eq1 (.agg (av fx)),
  Eq1 (.agg (av pq)),
  Eq1 (.bool false),
  Eq1 (.bool true)]
theorem whFS (fx pq : Nat → Int) : ∀ j x' q q', (whFL fx pq).getD j (fun _ _ => True) x' q → Below q.heap.size q q' → (whFL fx pq).getD j (fun _ _ => True) x' q' := by
  refine sta_all _ ?_
  simp only [whFL, List.mem_cons, forall_eq_or_imp, List.not_mem_nil, false_implies, implies_true, and_true]
  exact ⟨sta_eq _, sta_eq _, sta_eq _, sta_eq _⟩
set_option maxRecDepth 20000 in
set_option maxHeartbeats 2000000 in
theorem whole_c (t : Nat → Int) (ht : Dg.Bd t) (w : World) : Calls Tryd.prog 86 #[.agg (av t)] w (PostN (Dg.dg (nf t)) w) := by
  have hend := fun f hD hm hl => @nf_end f t hD hm hl
  obtain ⟨r, hr0, hrn, hrl, hrs, hre, hrb, hrb2, hrb3⟩ := Dg.rounds_ex ht
  have hPc := p_c
  have hpp := pd_sm
  have hpdi := pd_di
  generalize pd = pq at *
  generalize hnf : Dg.dg (nf t) = z at *
  clear hnf
  subst hr0
  replace hend := Lib.hid hend
  replace hrn := Lib.hid hrn
  replace hrl := Lib.hid hrl
  replace hrs := Lib.hid hrs
  replace hre := Lib.hid hre
  replace hrb := Lib.hid hrb
  replace hrb2 := Lib.hid hrb2
  replace hrb3 := Lib.hid hrb3
  replace hPc := Lib.hid hPc
  replace hpp := Lib.hid hpp
  replace hpdi := Lib.hid hpdi
  clear ht
  go_enter Tryd.func86, Tryd.ntmps86
  go_wp2
  refine at_world (fun W0 hW => ?_)
  have hA : Blk W0 (w.heap.size) 33 (av (r 0 0)) := by rw [hW]; exact (Blk.new _ _ _).alloc _
  have hZ : Blk W0 (w.heap.size + 1) 33 (av fun _ => 0) := by rw [hW]; exact blk_at (by simp) (Blk.new _ _ _)
  have hb0 : Below w.heap.size w W0 := by rw [hW]; go_grown
  clear hW
  generalize hB : w.heap.size = B at *
  go_loopw [3] (fun i wr => ∃ k : Nat, k ≤ 6 ∧ i = .int .i64 k ∧ Blk wr B 33 (av (r k 0)) ∧ Blk wr (B + 1) 33 (av fun _ => 0) ∧ Below B w wr) (fun i _ => (6 - intOf i).toNat)
  case atStart => exact ⟨0, by decide, rfl, hA, hZ, hb0⟩
  case round =>
    clear hA hZ hb0
    obtain ⟨k, hk, hi, hA, hZ, hb0⟩ := hrel
    subst hi
    by_cases h6 : k = 6
    · subst h6
      clear hk
      go_wp2
      go_loopg [] 3 (fun gk wx => ∃ f, Dg.Di f 16 ∧ Dg.sm f 16 % Fe.p = Dg.sm (r 0 0) 16 % Fe.p ∧ Dg.sm f 16 < gk * Fe.p ∧ Blk wx B 33 (av f) ∧ Blk wx (B + 1) 33 (av fun _ => 0) ∧ Below B w wx)
      case atStart =>
        refine ⟨r 6 0, hrl.out.1, hrl.out.2, ?_, hA, hZ, hb0⟩
        have := (Dg.sm_lt 16 hrl.out.1).2
        rw [Dg.M_eq] at this
        unfold Dg.M at this
        unfold Fe.p
        omega
      case round =>
        obtain ⟨fx, hD, hm, hl, hA, hZ, hb0⟩ := hrel
        clear hrn hrs hre hrb hrb2 hrb3 hrl
        by_cases hlt : Dg.sm fx 16 < Fe.p
        · have hLs := less_c fx pq hD hpdi.out
          rw [show lessB fx pq = true from decide_eq_true (by rw [hpp.out]; exact hlt)] at hLs
          have hz := hend.out fx hD hm hlt
          replace hLs := Lib.hid hLs
          replace hz := Lib.hid hz
          clear hD hm hl hlt
          go_wp2
          refine wp_region_grow2 4 (fun k => (Nat.ble 41 k && Nat.ble k 44)) _ [] (fun j x' q => (whTL fx pq).getD j (fun _ _ => True) x' q) (fun _ => false) (fun f => #[.agg (av (r 0 0)), .pointer (some ⟨B, 0, none⟩), .pointer (some ⟨B + 1, 0, none⟩), .int .i64 6, u4, u5, .int .i64 6, .bool false, u8, u9, u10, u11, u12, u13, u14, u15, u16, u17, u18, u19, u20, u21, u22, u23, u24, u25, u26, u27, u28, u29, u30, u31, u32, u33, u34, u35, u36, u37, u38, u39, u40, f 41, f 42, f 43, f 44, u45, u46, undef]) (fun f => rfl) (by kernel_rfl) (by kernel_rfl) (by kernel_rfl) (by kernel_rfl) (by kernel_rfl) (whTS _ _) (fun _ _ _ h => by cases h) ?_ ?_
          · refine steps2_cons ?_ ?_
            · intro f w1 hb hd Q hK
              clear hd
              have hK := Lib.hid hK
              refine ldN rfl rfl rfl (hA.below hb) ?_
              go_wp2
              exact hK.out _ _ rfl (.refl _ _) nof
            refine steps2_cons ?_ ?_
            · intro f w1 hb hd Q hK
              clear hd
              have hK := Lib.hid hK
              go_wp2_with fail
              refine (hPc.out _).mono ?_
              rintro e w2 ⟨rfl, hb2⟩
              go_wp2
              exact hK.out _ _ rfl hb2 nof
            refine steps2_cons ?_ ?_
            · intro f w1 hb hd Q hK
              have e41 : f 41 = .agg (av fx) := hd.1 rfl
              have e42 : f 42 = .agg (av pq) := hd.2.1 rfl
              clear hd
              simp only [e41, e42] at hK
              have hK := Lib.hid hK
              go_wp2_with fail
              refine (hLs.out _).mono ?_
              rintro e w2 ⟨rfl, hb2⟩
              go_wp2
              exact hK.out _ _ rfl hb2 nof
            refine steps2_cons ?_ ?_
            · intro f w1 hb hd Q hK
              have e43 : f 43 = .bool true := hd.1 rfl
              clear hd
              simp only [e43] at hK
              have hK := Lib.hid hK
              go_wp2
              exact hK.out _ _ rfl (.refl _ _) nof
            trivial
          intro f w1 hb hf hne
          refine wpList_nil ?_
          have d44 : f 44 = .bool false := hf 3 _ _ (by decide) rfl rfl
          replace hA := hA.below hb
          replace hZ := hZ.below hb
          replace hb0 := hb0.trans (hb.mono (hB ▸ hb0.size))
          clear hf hne hb
          simp only [d44]
          go_wp2_with (first | (refine ldN rfl rfl rfl hA ?_) | (refine stN rfl rfl rfl rfl hZ ?_; intro w3 hnew hgr hsz))
          refine retN rfl rfl hnew rfl (PostN.congr hz.out ⟨rfl, ?_⟩)
          rw [hB]
          exact hb0.grown hgr (hB ▸ hb0.size) (fun k h => by injection h; omega)
        have hLs := less_c fx pq hD hpdi.out
        rw [show lessB fx pq = false from decide_eq_false (by rw [hpp.out]; exact hlt)] at hLs
        have hlp := lessP_c fx hD (by omega)
        obtain ⟨g', rfl⟩ : ∃ g', gk = g' + 1 := ⟨gk - 1, by
          have : gk ≠ 0 := fun h => by
            subst h
            have := (Dg.sm_lt 16 hD).1
            simp at hl
            omega
          omega⟩
        have hl' : Dg.sm fx 16 - Fe.p < g' * Fe.p := by
          rw [Int.natCast_add, Int.add_mul] at hl
          omega
        have hm' : (Dg.sm fx 16 - Fe.p) % Fe.p = Dg.sm (r 0 0) 16 % Fe.p := by
          rw [← hm, Int.sub_emod_right]
        replace hLs := Lib.hid hLs
        replace hlp := Lib.hid hlp
        replace hl' := Lib.hid hl'
        replace hm' := Lib.hid hm'
        clear hD hm hl hlt
        go_wp2
        refine wp_region_grow2 4 (fun k => (Nat.ble 41 k && Nat.ble k 44)) _ [] (fun j x' q => (whFL fx pq).getD j (fun _ _ => True) x' q) (fun _ => false) (fun f => #[.agg (av (r 0 0)), .pointer (some ⟨B, 0, none⟩), .pointer (some ⟨B + 1, 0, none⟩), .int .i64 6, u4, u5, .int .i64 6, .bool false, u8, u9, u10, u11, u12, u13, u14, u15, u16, u17, u18, u19, u20, u21, u22, u23, u24, u25, u26, u27, u28, u29, u30, u31, u32, u33, u34, u35, u36, u37, u38, u39, u40, f 41, f 42, f 43, f 44, u45, u46, undef]) (fun f => rfl) (by kernel_rfl) (by kernel_rfl) (by kernel_rfl) (by kernel_rfl) (by kernel_rfl) (whFS _ _) (fun _ _ _ h => by cases h) ?_ ?_
        · refine steps2_cons ?_ ?_
          · intro f w1 hb hd Q hK
            clear hd
            have hK := Lib.hid hK
            refine ldN rfl rfl rfl (hA.below hb) ?_
            go_wp2
            exact hK.out _ _ rfl (.refl _ _) nof
          refine steps2_cons ?_ ?_
          · intro f w1 hb hd Q hK
            clear hd
            have hK := Lib.hid hK
            go_wp2_with fail
            refine (hPc.out _).mono ?_
            rintro e w2 ⟨rfl, hb2⟩
            go_wp2
            exact hK.out _ _ rfl hb2 nof
          refine steps2_cons ?_ ?_
          · intro f w1 hb hd Q hK
            have e41 : f 41 = .agg (av fx) := hd.1 rfl
            have e42 : f 42 = .agg (av pq) := hd.2.1 rfl
            clear hd
            simp only [e41, e42] at hK
            have hK := Lib.hid hK
            go_wp2_with fail
            refine (hLs.out _).mono ?_
            rintro e w2 ⟨rfl, hb2⟩
            go_wp2
            exact hK.out _ _ rfl hb2 nof
          refine steps2_cons ?_ ?_
          · intro f w1 hb hd Q hK
            have e43 : f 43 = .bool false := hd.1 rfl
            clear hd
            simp only [e43] at hK
            have hK := Lib.hid hK
            go_wp2
            exact hK.out _ _ rfl (.refl _ _) nof
          trivial
        intro f w1 hb hf hne
        refine wpList_nil ?_
        have d44 : f 44 = .bool true := hf 3 _ _ (by decide) rfl rfl
        replace hA := hA.below hb
        replace hZ := hZ.below hb
        replace hb0 := hb0.trans (hb.mono (hB ▸ hb0.size))
        clear hf hne hb
        simp only [d44]
        go_wp2_with (refine ldN rfl rfl rfl hA ?_)
        refine (hlp.out _).mono ?_
        rintro e w2 ⟨t2, ⟨rfl, hb2⟩, hD2, hs2⟩
        rw [hs2.symm] at hl' hm'
        replace hD2 := Lib.hid hD2
        replace hs2 := Lib.hid hs2
        replace hA := hA.below hb2
        replace hZ := hZ.below hb2
        replace hb0 := hb0.trans (hb2.mono (hB ▸ hb0.size))
        clear hb2
        go_wp2_with (refine stN rfl rfl rfl rfl hA ?_; intro w3 hA3 hgr hsz)
        go_roundg g'
        case measure => omega
        case rel => exact ⟨t2, hD2.out, hm'.out, hl'.out, hA3, hZ.grown hgr (fun h => by injection h; omega), hb0.grown hgr (hB ▸ hb0.size) (fun k h => by injection h; omega)⟩
    have hk0 : (0 : Int) ≤ (k : Int) := by omega
    have hk1 : (k : Int) < 6 := by omega
    clear h6 hk
    go_wp2
    obtain ⟨wo, rfl⟩ : ∃ wo : World, wo = wr := ⟨_, rfl⟩
    go_loopw [4] (fun i wx => ∃ m : Nat, m ≤ 16 ∧ i = .int .i64 m ∧ Blk wx B 33 (av (r k m)) ∧ Blk wx (B + 1) 33 (av fun _ => 0) ∧ Below B w wx) (fun i _ => (16 - intOf i).toNat)
    case atStart => exact ⟨0, by decide, rfl, hA, hZ, hb0⟩
    case round =>
      clear hA hZ hb0
      obtain ⟨m, hm, hi, hA, hZ, hb0⟩ := hrel
      subst hi
      by_cases h16 : m = 16
      · subst h16
        rw [hrn.out k] at hA
        clear hm
        go_wp2
        exact ⟨⟨k + 1, by omega, rfl, hA, hZ, hb0⟩, by simp [intOf]; omega⟩
      have ca := hA.cell m
      rw [av_get _ _ (by omega)] at ca
      have hbm := hrb.out k m (by omega)
      have hm0 : (0 : Int) ≤ (m : Int) := by omega
      by_cases h15 : m = 15
      · subst h15
        have cb := hA.cell 0
        rw [av_get _ _ (by omega)] at cb
        have hb3 := hrb3.out k
        have hS := hre.out k
        have hA1 := hA.set_ 15 (.int .u64 (r k 15 15 % 65536))
        rw [av_set _ _ _ (by omega)] at hA1
        have hA2 := hA1.set_ 0 (.int .u64 (r k 15 0 + 38 * (r k 15 15 / 65536)))
        rw [av_set _ _ _ (by omega), hS] at hA2
        have hZ2 := (hZ.far (p := ⟨B, 15, none⟩) (by show B + 1 ≠ B; omega) (.int .u64 (r k 15 15 % 65536))).far (p := ⟨B, 0, none⟩) (by show B + 1 ≠ B; omega) (.int .u64 (r k 15 0 + 38 * (r k 15 15 / 65536)))
        have hb2 := (hb0.setCell (p := ⟨B, 15, none⟩) (Nat.le_refl _) (.int .u64 (r k 15 15 % 65536))).setCell (p := ⟨B, 0, none⟩) (Nat.le_refl _) (.int .u64 (r k 15 0 + 38 * (r k 15 15 / 65536)))
        replace hS := Lib.hid hS
        have hfr := fun j => hA.frozen j
        generalize r k 15 15 = x at *
        generalize r k 15 0 = y at *
        have hand := and16 x (by omega) (by omega)
        have h3 : 0 ≤ x / 65536 ∧ x / 65536 < 35184372088832 := by omega
        clear hA hZ hb0 hm h16 hA1
        go_wp2
        exact ⟨⟨16, by omega, rfl, hA2, hZ2, hb2⟩, by simp [intOf]⟩
      have hm1 : (m : Int) < 15 := by omega
      have cb := hA.cell (m + 1)
      rw [av_get _ _ (by omega)] at cb
      have hb3 := hrb2.out k m (by omega)
      have hS := hrs.out k m (by omega)
      have hA1 := hA.set_ m (.int .u64 (r k m m % 65536))
      rw [av_set _ _ _ (by omega)] at hA1
      have hA2 := hA1.set_ (m + 1) (.int .u64 (r k m (m + 1) + r k m m / 65536))
      rw [av_set _ _ _ (by omega), hS] at hA2
      have hZ2 := (hZ.far (p := ⟨B, m, none⟩) (by show B + 1 ≠ B; omega) (.int .u64 (r k m m % 65536))).far (p := ⟨B, m + 1, none⟩) (by show B + 1 ≠ B; omega) (.int .u64 (r k m (m + 1) + r k m m / 65536))
      have hb2 := (hb0.setCell (p := ⟨B, m, none⟩) (Nat.le_refl _) (.int .u64 (r k m m % 65536))).setCell (p := ⟨B, m + 1, none⟩) (Nat.le_refl _) (.int .u64 (r k m (m + 1) + r k m m / 65536))
      replace hS := Lib.hid hS
      have hfr := fun j => hA.frozen j
      generalize r k m m = x at *
      generalize r k m (m + 1) = y at *
      have hand := and16 x (by omega) (by omega)
      have h3 : 0 ≤ x / 65536 ∧ x / 65536 < 35184372088832 := by omega
      clear hA hZ hb0 hm h16 h15 hA1
      go_wp2
      exact ⟨⟨m + 1, by omega, rfl, hA2, hZ2, hb2⟩, by simp [intOf]; omega⟩
end Go.Proofs.YtpaldgajkhmhbaaDoor
