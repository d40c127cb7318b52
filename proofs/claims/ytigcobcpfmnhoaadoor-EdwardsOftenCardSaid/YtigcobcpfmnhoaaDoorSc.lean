/- The walk of scalar's rest: add. -/
import Derived.Test.YtigcobcpfmnhoaaDoorSb
import Derived.Lib.EndianBits
import Derived.Lib.BufferOwn
namespace Go.Proofs.YtigcobcpfmnhoaaDoor
open Go.RowKit
theorem or8_b {x y : Int} (hy : 0 ≤ y ∧ y < 256) : bits .or .u64 (IntKind.u64.wrap (x * 256)) y = x * 256 % 18446744073709551616 + y := by
  rw [IntKind.wrap_u64]
  exact bits_join .u64 64 (by decide) wraps_u64 8 _ _ (by omega) (by omega) (by omega) hy.1 (by omega) (by omega)
def PostRest (N : Int) (GR : Nat) (w : World) (e : Ending) (w' : World) : Prop := e = .returned (.tuple #[]) ∧ ∃ d : Fe.E, Fe.W d ∧ Sc.V d = N ∧ Blk w' GR 88 #[.int .u64 d.a0, .int .u64 d.a1, .int .u64 d.a2, .int .u64 d.a3, .int .u64 d.a4] ∧ w.grownBy w' (some GR)
/-- 256 times a number, and a byte -/
theorem rest_l (a : Fe.E) (ha : Fe.W a) (hv : 0 ≤ Sc.V a ∧ Sc.V a < LI) (b : Int) (hb : 0 ≤ b ∧ b < 256) : ∃ c0 c1 c2 c3 c4 : Int, bits .or .u64 (IntKind.u64.wrap (a.a4 * 256)) (a.a3 / 72057594037927936) = c4 ∧ bits .or .u64 (IntKind.u64.wrap (a.a3 * 256)) (a.a2 / 72057594037927936) = c3 ∧ bits .or .u64 (IntKind.u64.wrap (a.a2 * 256)) (a.a1 / 72057594037927936) = c2 ∧ bits .or .u64 (IntKind.u64.wrap (a.a1 * 256)) (a.a0 / 72057594037927936) = c1 ∧ bits .or .u64 (IntKind.u64.wrap (a.a0 * 256)) b = c0 ∧ Fe.W ⟨c0, c1, c2, c3, c4⟩ ∧ Sc.V ⟨c0, c1, c2, c3, c4⟩ = 256 * Sc.V a + b := by
  obtain ⟨a0, a1, a2, a3, a4⟩ := a
  obtain ⟨⟨h0, k0⟩, ⟨h1, k1⟩, ⟨h2, k2⟩, ⟨h3, k3⟩, ⟨h4, k4⟩⟩ := ha
  dsimp only at *
  refine ⟨_, _, _, _, _, or8_b (by omega), or8_b (by omega), or8_b (by omega), or8_b (by omega), or8_b hb, ?_, ?_⟩
  · unfold Fe.W
    dsimp only
    omega
  · unfold Sc.V LI at hv
    unfold Sc.V
    dsimp only at *
    omega
set_option maxRecDepth 20000 in
set_option maxHeartbeats 2000000 in
theorem srest_c (a : Fe.E) (ha : Fe.W a) (hv : 0 ≤ Sc.V a ∧ Sc.V a < LI) (b : Int) (hb : 0 ≤ b ∧ b < 256) (GR : Nat) (w : World) (hR : Blk w GR 88 #[.int .u64 a.a0, .int .u64 a.a1, .int .u64 a.a2, .int .u64 a.a3, .int .u64 a.a4]) : Calls Tryd.prog 65 #[.pointer (some ⟨GR, 0, none⟩), .int .u8 b] w (PostRest ((256 * Sc.V a + b) % LI) GR w) := by
  obtain ⟨c0, c1, c2, c3, c4, e4, e3, e2, e1, e0, hcw, hcv⟩ := rest_l a ha hv b hb
  rw [← hcv]
  have hlo : 0 ≤ Sc.V ⟨c0, c1, c2, c3, c4⟩ ∧ Sc.V ⟨c0, c1, c2, c3, c4⟩ < LI * 2 ^ 9 := by
    rw [hcv]
    have h1 := hv.1
    have h2 := hv.2
    have h3 : LI * 2 ^ 9 = 512 * LI := by unfold LI; decide
    rw [h3]
    omega
  clear hv hcv ha
  replace hcw := Lib.hid hcw
  replace hlo := Lib.hid hlo
  obtain ⟨hb0, hb1⟩ := hb
  have hg : w.grownBy w (some GR) := ⟨rfl, rfl, rfl, Nat.le_refl _, fun _ _ _ => rfl⟩
  obtain ⟨r0, r1, r2, r3, r4⟩ := blk5 hR
  have fR := fun j => hR.frozen j
  go_enter Tryd.func65, Tryd.ntmps65
  go_wp2
  refine wp_loop_rounds 5 ?_
  rw [rounds_succ]
  go_wp2
  go_region
  go_wp2
  rw [rounds_succ]
  clear r0 r1 r2 r3 r4 fR
  refine at_world (fun W1 hW => ?_)
  replace hR : Blk W1 GR 88 #[.int .u64 a.a0, .int .u64 a.a1, .int .u64 a.a2, .int .u64 a.a3, .int .u64 c4] := by rw [hW]; exact hR.set_ 4 (.int .u64 c4)
  replace hg : w.grownBy W1 (some GR) := by rw [hW]; exact grown_celld hg _ _
  clear hW
  obtain ⟨r0, r1, r2, r3, r4⟩ := blk5 hR
  have fR := fun j => hR.frozen j
  go_wp2
  go_region
  go_wp2
  rw [rounds_succ]
  clear r0 r1 r2 r3 r4 fR
  refine at_world (fun W2 hW => ?_)
  replace hR : Blk W2 GR 88 #[.int .u64 a.a0, .int .u64 a.a1, .int .u64 a.a2, .int .u64 c3, .int .u64 c4] := by rw [hW]; exact hR.set_ 3 (.int .u64 c3)
  replace hg : w.grownBy W2 (some GR) := by rw [hW]; exact grown_celld hg _ _
  clear hW
  obtain ⟨r0, r1, r2, r3, r4⟩ := blk5 hR
  have fR := fun j => hR.frozen j
  go_wp2
  go_region
  go_wp2
  rw [rounds_succ]
  clear r0 r1 r2 r3 r4 fR
  refine at_world (fun W3 hW => ?_)
  replace hR : Blk W3 GR 88 #[.int .u64 a.a0, .int .u64 a.a1, .int .u64 c2, .int .u64 c3, .int .u64 c4] := by rw [hW]; exact hR.set_ 2 (.int .u64 c2)
  replace hg : w.grownBy W3 (some GR) := by rw [hW]; exact grown_celld hg _ _
  clear hW
  obtain ⟨r0, r1, r2, r3, r4⟩ := blk5 hR
  have fR := fun j => hR.frozen j
  go_wp2
  go_region
  go_wp2
  rw [rounds_succ]
  clear r0 r1 r2 r3 r4 fR
  refine at_world (fun W4 hW => ?_)
  replace hR : Blk W4 GR 88 #[.int .u64 a.a0, .int .u64 c1, .int .u64 c2, .int .u64 c3, .int .u64 c4] := by rw [hW]; exact hR.set_ 1 (.int .u64 c1)
  replace hg : w.grownBy W4 (some GR) := by rw [hW]; exact grown_celld hg _ _
  clear hW
  obtain ⟨r0, r1, r2, r3, r4⟩ := blk5 hR
  have fR := fun j => hR.frozen j
  go_wp2
  go_region
  clear r0 r1 r2 r3 r4 fR
  go_wp2
  refine at_world (fun W5 hW => ?_)
  replace hR : Blk W5 GR 88 #[.int .u64 c0, .int .u64 c1, .int .u64 c2, .int .u64 c3, .int .u64 c4] := by rw [hW]; exact hR.set_ 0 (.int .u64 c0)
  replace hg : w.grownBy W5 (some GR) := by rw [hW]; exact grown_celld hg _ _
  clear hW
  obtain ⟨c, hc⟩ : ∃ c : Fe.E, c = ⟨c0, c1, c2, c3, c4⟩ := ⟨_, rfl⟩
  rw [← hc] at hcw hlo ⊢
  replace hR : Blk W5 GR 88 #[.int .u64 c.a0, .int .u64 c.a1, .int .u64 c.a2, .int .u64 c.a3, .int .u64 c.a4] := by rw [hc]; exact hR
  clear hc e0 e1 e2 e3 e4
  go_loopw [5] (fun t wr => ∃ k : Nat, k ≤ 9 ∧ t = .int .i64 ((k : Int) - 1) ∧ ∃ d : Fe.E, Fe.W d ∧ 0 ≤ Sc.V d ∧ Sc.V d < LI * 2 ^ k ∧ Sc.V d % LI = Sc.V c % LI ∧ Blk wr GR 88 #[.int .u64 d.a0, .int .u64 d.a1, .int .u64 d.a2, .int .u64 d.a3, .int .u64 d.a4] ∧ w.grownBy wr (some GR)) (fun t _ => (intOf t + 1).toNat)
  case atStart => exact ⟨9, by decide, rfl, c, hcw.out, hlo.out.1, hlo.out.2, rfl, hR, hg⟩
  case round =>
    clear hR hg hcw hlo
    obtain ⟨k, hk, ht, d, hw, hv0, hv1, hv2, hR, hg⟩ := hrel
    subst ht
    by_cases h0 : k = 0
    · subst h0
      have hP : PostRest (Sc.V c % LI) GR w (.returned (.tuple #[])) wr := ⟨rfl, d, hw, by rw [← hv2, Int.emod_eq_of_lt hv0 (by simpa using hv1)], hR, hg⟩
      replace hP := Lib.hid hP
      clear hv0 hv1 hv2 hR hg hw hk
      go_wp2
      go_returns
      exact hP.out
    · obtain ⟨j, rfl⟩ : ∃ j, k = j + 1 := ⟨k - 1, by omega⟩
      have hm := fun W hR => sminus_c d hw GR W hR j (by omega)
      replace hm := Lib.hid hm
      replace hw := Lib.hid hw
      replace hv0 := Lib.hid hv0
      replace hv1 := Lib.hid hv1
      replace hv2 := Lib.hid hv2
      replace hg := Lib.hid hg
      have hj0 : (0 : Int) ≤ (j : Int) := by omega
      have hj1 : (j : Int) ≤ 8 := by omega
      have hjj : ((j + 1 : Nat) : Int) - 1 = (j : Int) := by omega
      rw [hjj]
      clear hjj h0 hk
      go_wp2_with fail
      refine (hm.out _ hR).mono ?_
      rintro e w1 ⟨rfl, d1, hw1, hv, hR1, hg1⟩
      have hlt : LI * 2 ^ (j + 1) = LI * 2 ^ j * 2 := by rw [Int.pow_succ, ← Int.mul_assoc]
      have hb : 0 ≤ Sc.V d1 ∧ Sc.V d1 < LI * 2 ^ j ∧ Sc.V d1 % LI = Sc.V c % LI := by
        have h0 := hv0.out
        have h1 := hv1.out
        rw [hlt] at h1
        rw [hv]
        by_cases h : Sc.V d < LI * 2 ^ j
        · rw [if_pos h]
          exact ⟨h0, h, hv2.out⟩
        · rw [if_neg h]
          refine ⟨by omega, by omega, ?_⟩
          rw [← hv2.out, Int.sub_mul_emod_self_left]
      clear hlt hv
      replace hb := Lib.hid hb
      replace hw1 := Lib.hid hw1
      have hg2 := Lib.hid (Lib.grownBy_trans hg.out hg1)
      clear hg hg1 hv0 hv1 hv2 hw hm hR
      go_wp2
      exact ⟨⟨j, by omega, rfl, d1, hw1.out, hb.out.1, hb.out.2.1, hb.out.2.2, hR1, hg2.out⟩, by simp [intOf]⟩
end Go.Proofs.YtigcobcpfmnhoaaDoor
