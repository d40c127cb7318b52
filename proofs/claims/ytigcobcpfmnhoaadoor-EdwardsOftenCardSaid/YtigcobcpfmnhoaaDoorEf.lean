/- The walks of edwards.four, Same, On. -/
import Derived.Test.YtigcobcpfmnhoaaDoorZa
namespace Go.Proofs.YtigcobcpfmnhoaaDoor
open Go.RowKit
def fo1L (u1 : Fe.E) (u2 : Fe.E) (u3 : Fe.E) (u4 : Fe.E) (a : Nat) (b : Nat) (c : Nat) (d : Nat) : List (Value → World → Prop) := [
  Eq1 (.agg #[.int .u64 u1.a0, .int .u64 u1.a1, .int .u64 u1.a2, .int .u64 u1.a3, .int .u64 u1.a4]),
  Eq1 (.agg #[.int .u64 u2.a0, .int .u64 u2.a1, .int .u64 u2.a2, .int .u64 u2.a3, .int .u64 u2.a4]),
  ElP (a * b % Fe.P),
  Eq1 (.agg #[.int .u64 u3.a0, .int .u64 u3.a1, .int .u64 u3.a2, .int .u64 u3.a3, .int .u64 u3.a4]),
  Eq1 (.agg #[.int .u64 u4.a0, .int .u64 u4.a1, .int .u64 u4.a2, .int .u64 u4.a3, .int .u64 u4.a4]),
  ElP (c * d % Fe.P),
  Eq1 (.agg #[.int .u64 u2.a0, .int .u64 u2.a1, .int .u64 u2.a2, .int .u64 u2.a3, .int .u64 u2.a4]),
  Eq1 (.agg #[.int .u64 u3.a0, .int .u64 u3.a1, .int .u64 u3.a2, .int .u64 u3.a3, .int .u64 u3.a4]),
  ElP (b * c % Fe.P),
  Eq1 (.agg #[.int .u64 u1.a0, .int .u64 u1.a1, .int .u64 u1.a2, .int .u64 u1.a3, .int .u64 u1.a4]),
  Eq1 (.agg #[.int .u64 u4.a0, .int .u64 u4.a1, .int .u64 u4.a2, .int .u64 u4.a3, .int .u64 u4.a4]),
  ElP (a * d % Fe.P),
  PtP (a * b % Fe.P) (c * d % Fe.P) (b * c % Fe.P) (a * d % Fe.P)]
theorem fo1S (u1 : Fe.E) (u2 : Fe.E) (u3 : Fe.E) (u4 : Fe.E) (a : Nat) (b : Nat) (c : Nat) (d : Nat) : ∀ j x' q q', (fo1L u1 u2 u3 u4 a b c d).getD j (fun _ _ => True) x' q → Below q.heap.size q q' → (fo1L u1 u2 u3 u4 a b c d).getD j (fun _ _ => True) x' q' := by
  refine sta_all _ ?_
  simp only [fo1L, List.mem_cons, forall_eq_or_imp, List.not_mem_nil, false_implies, implies_true, and_true]
  exact ⟨sta_eq _, sta_eq _, sta_el _, sta_eq _, sta_eq _, sta_el _, sta_eq _, sta_eq _, sta_el _, sta_eq _, sta_eq _, sta_el _, sta_pt _ _ _ _⟩
set_option maxRecDepth 20000 in
set_option maxHeartbeats 8000000 in
theorem four_c {u1 u2 u3 u4 : Fe.E} {a b c d : Nat} (hu1 : El u1 a) (hu2 : El u2 b) (hu3 : El u3 c) (hu4 : El u4 d) (w : World) : Calls Tryd.prog 71 #[.agg #[.int .u64 u1.a0, .int .u64 u1.a1, .int .u64 u1.a2, .int .u64 u1.a3, .int .u64 u1.a4], .agg #[.int .u64 u2.a0, .int .u64 u2.a1, .int .u64 u2.a2, .int .u64 u2.a3, .int .u64 u2.a4], .agg #[.int .u64 u3.a0, .int .u64 u3.a1, .int .u64 u3.a2, .int .u64 u3.a3, .int .u64 u3.a4], .agg #[.int .u64 u4.a0, .int .u64 u4.a1, .int .u64 u4.a2, .int .u64 u4.a3, .int .u64 u4.a4]] w (PostP (a * b % Fe.P) (c * d % Fe.P) (b * c % Fe.P) (a * d % Fe.P) w) := by
  go_enter Tryd.func71, Tryd.ntmps71
  go_wp2_with fail
  refine at_world (fun W0 hW => ?_)
  have k0 : Blk W0 (w.heap.size) 28 #[.int .u64 u1.a0, .int .u64 u1.a1, .int .u64 u1.a2, .int .u64 u1.a3, .int .u64 u1.a4] := by rw [hW]; exact ((((Blk.new _ _ _).alloc _).alloc _).alloc _).alloc _
  have k1 : Blk W0 (w.heap.size + 1) 28 #[.int .u64 u2.a0, .int .u64 u2.a1, .int .u64 u2.a2, .int .u64 u2.a3, .int .u64 u2.a4] := by rw [hW]; exact (((blk_at (by simp) (Blk.new _ _ _)).alloc _).alloc _).alloc _
  have k2 : Blk W0 (w.heap.size + 1 + 1) 28 #[.int .u64 u3.a0, .int .u64 u3.a1, .int .u64 u3.a2, .int .u64 u3.a3, .int .u64 u3.a4] := by rw [hW]; exact ((blk_at (by simp) (Blk.new _ _ _)).alloc _).alloc _
  have k3 : Blk W0 (w.heap.size + 1 + 1 + 1) 28 #[.int .u64 u4.a0, .int .u64 u4.a1, .int .u64 u4.a2, .int .u64 u4.a3, .int .u64 u4.a4] := by rw [hW]; exact (blk_at (by simp) (Blk.new _ _ _)).alloc _
  have k4 : Blk W0 (w.heap.size + 1 + 1 + 1 + 1) 30 #[.int .u64 0, .int .u64 0, .int .u64 0, .int .u64 0, .int .u64 0, .int .u64 0, .int .u64 0, .int .u64 0, .int .u64 0, .int .u64 0, .int .u64 0, .int .u64 0, .int .u64 0, .int .u64 0, .int .u64 0, .int .u64 0, .int .u64 0, .int .u64 0, .int .u64 0, .int .u64 0] := by rw [hW]; exact blk_at (by simp) (Blk.new _ _ _)
  have hb0 : Below w.heap.size w W0 := by rw [hW]; go_grown
  clear hW
  obtain ⟨G4, hG4⟩ : ∃ G4, G4 = w.heap.size + 1 + 1 + 1 + 1 := ⟨_, rfl⟩
  rw [← hG4] at k4 ⊢
  obtain ⟨G3, hG3⟩ : ∃ G3, G3 = w.heap.size + 1 + 1 + 1 := ⟨_, rfl⟩
  rw [← hG3] at k3 ⊢
  obtain ⟨G2, hG2⟩ : ∃ G2, G2 = w.heap.size + 1 + 1 := ⟨_, rfl⟩
  rw [← hG2] at k2 ⊢
  obtain ⟨G1, hG1⟩ : ∃ G1, G1 = w.heap.size + 1 := ⟨_, rfl⟩
  rw [← hG1] at k1 ⊢
  obtain ⟨G0, hG0⟩ : ∃ G0, G0 = w.heap.size := ⟨_, rfl⟩
  rw [← hG0] at k0 ⊢
  have lo_G0 : w.heap.size ≤ G0 := by omega
  have lo_G1 : w.heap.size ≤ G1 := by omega
  have lo_G2 : w.heap.size ≤ G2 := by omega
  have lo_G3 : w.heap.size ≤ G3 := by omega
  have lo_G4 : w.heap.size ≤ G4 := by omega
  have ne_G0_G1 : G0 ≠ G1 := by omega
  have ne_G0_G2 : G0 ≠ G2 := by omega
  have ne_G0_G3 : G0 ≠ G3 := by omega
  have ne_G0_G4 : G0 ≠ G4 := by omega
  have ne_G1_G2 : G1 ≠ G2 := by omega
  have ne_G1_G3 : G1 ≠ G3 := by omega
  have ne_G1_G4 : G1 ≠ G4 := by omega
  have ne_G2_G3 : G2 ≠ G3 := by omega
  have ne_G2_G4 : G2 ≠ G4 := by omega
  have ne_G3_G4 : G3 ≠ G4 := by omega
  clear hG0 hG1 hG2 hG3 hG4
  refine wp_region_grow2 13 (fun k => (Nat.ble 9 k && Nat.ble k 21)) _ [] (fun j x' q => (fo1L u1 u2 u3 u4 a b c d).getD j (fun _ _ => True) x' q) (fun _ => false) (fun f => #[.agg #[.int .u64 u1.a0, .int .u64 u1.a1, .int .u64 u1.a2, .int .u64 u1.a3, .int .u64 u1.a4], .agg #[.int .u64 u2.a0, .int .u64 u2.a1, .int .u64 u2.a2, .int .u64 u2.a3, .int .u64 u2.a4], .agg #[.int .u64 u3.a0, .int .u64 u3.a1, .int .u64 u3.a2, .int .u64 u3.a3, .int .u64 u3.a4], .agg #[.int .u64 u4.a0, .int .u64 u4.a1, .int .u64 u4.a2, .int .u64 u4.a3, .int .u64 u4.a4], .pointer (some ⟨G0, 0, none⟩), .pointer (some ⟨G1, 0, none⟩), .pointer (some ⟨G2, 0, none⟩), .pointer (some ⟨G3, 0, none⟩), .pointer (some ⟨G4, 0, none⟩), f 9, f 10, f 11, f 12, f 13, f 14, f 15, f 16, f 17, f 18, f 19, f 20, f 21]) (fun f => rfl) (by kernel_rfl) (by kernel_rfl) (by kernel_rfl) (by kernel_rfl) (by kernel_rfl) (fo1S _ _ _ _ _ _ _ _) (fun _ _ _ h => by cases h) ?_ ?_
  · refine steps2_cons ?_ ?_
    · intro f w1 hb hd Q hK
      clear hd
      have hK := Lib.hid hK
      have c0 : w1.cell? ⟨G0, 0, none⟩ = some (.int .u64 u1.a0) := (k0.below hb).cell 0
      have c1 : w1.cell? ⟨G0, 1, none⟩ = some (.int .u64 u1.a1) := (k0.below hb).cell 1
      have c2 : w1.cell? ⟨G0, 2, none⟩ = some (.int .u64 u1.a2) := (k0.below hb).cell 2
      have c3 : w1.cell? ⟨G0, 3, none⟩ = some (.int .u64 u1.a3) := (k0.below hb).cell 3
      have c4 : w1.cell? ⟨G0, 4, none⟩ = some (.int .u64 u1.a4) := (k0.below hb).cell 4
      go_wp2
      exact hK.out _ _ rfl (.refl _ _) nof
    refine steps2_cons ?_ ?_
    · intro f w1 hb hd Q hK
      clear hd
      have hK := Lib.hid hK
      have c0 : w1.cell? ⟨G1, 0, none⟩ = some (.int .u64 u2.a0) := (k1.below hb).cell 0
      have c1 : w1.cell? ⟨G1, 1, none⟩ = some (.int .u64 u2.a1) := (k1.below hb).cell 1
      have c2 : w1.cell? ⟨G1, 2, none⟩ = some (.int .u64 u2.a2) := (k1.below hb).cell 2
      have c3 : w1.cell? ⟨G1, 3, none⟩ = some (.int .u64 u2.a3) := (k1.below hb).cell 3
      have c4 : w1.cell? ⟨G1, 4, none⟩ = some (.int .u64 u2.a4) := (k1.below hb).cell 4
      go_wp2
      exact hK.out _ _ rfl (.refl _ _) nof
    refine steps2_cons ?_ ?_
    · intro f w1 hb hd Q hK
      have e9 : f 9 = .agg #[.int .u64 u1.a0, .int .u64 u1.a1, .int .u64 u1.a2, .int .u64 u1.a3, .int .u64 u1.a4] := hd.1 rfl
      have e10 : f 10 = .agg #[.int .u64 u2.a0, .int .u64 u2.a1, .int .u64 u2.a2, .int .u64 u2.a3, .int .u64 u2.a4] := hd.2.1 rfl
      clear hd
      simp only [e9, e10] at hK
      have hK := Lib.hid hK
      go_wp2_with fail
      refine (fMul hu1 hu2 _).mono ?_
      rintro e w2 ⟨x, rfl, hx, hb2⟩
      go_wp2
      exact hK.out _ _ ⟨x, rfl, hx⟩ hb2 nof
    refine steps2_cons ?_ ?_
    · intro f w1 hb hd Q hK
      clear hd
      have hK := Lib.hid hK
      have c0 : w1.cell? ⟨G2, 0, none⟩ = some (.int .u64 u3.a0) := (k2.below hb).cell 0
      have c1 : w1.cell? ⟨G2, 1, none⟩ = some (.int .u64 u3.a1) := (k2.below hb).cell 1
      have c2 : w1.cell? ⟨G2, 2, none⟩ = some (.int .u64 u3.a2) := (k2.below hb).cell 2
      have c3 : w1.cell? ⟨G2, 3, none⟩ = some (.int .u64 u3.a3) := (k2.below hb).cell 3
      have c4 : w1.cell? ⟨G2, 4, none⟩ = some (.int .u64 u3.a4) := (k2.below hb).cell 4
      go_wp2
      exact hK.out _ _ rfl (.refl _ _) nof
    refine steps2_cons ?_ ?_
    · intro f w1 hb hd Q hK
      clear hd
      have hK := Lib.hid hK
      have c0 : w1.cell? ⟨G3, 0, none⟩ = some (.int .u64 u4.a0) := (k3.below hb).cell 0
      have c1 : w1.cell? ⟨G3, 1, none⟩ = some (.int .u64 u4.a1) := (k3.below hb).cell 1
      have c2 : w1.cell? ⟨G3, 2, none⟩ = some (.int .u64 u4.a2) := (k3.below hb).cell 2
      have c3 : w1.cell? ⟨G3, 3, none⟩ = some (.int .u64 u4.a3) := (k3.below hb).cell 3
      have c4 : w1.cell? ⟨G3, 4, none⟩ = some (.int .u64 u4.a4) := (k3.below hb).cell 4
      go_wp2
      exact hK.out _ _ rfl (.refl _ _) nof
    refine steps2_cons ?_ ?_
    · intro f w1 hb hd Q hK
      have e12 : f 12 = .agg #[.int .u64 u3.a0, .int .u64 u3.a1, .int .u64 u3.a2, .int .u64 u3.a3, .int .u64 u3.a4] := hd.1 rfl
      have e13 : f 13 = .agg #[.int .u64 u4.a0, .int .u64 u4.a1, .int .u64 u4.a2, .int .u64 u4.a3, .int .u64 u4.a4] := hd.2.1 rfl
      clear hd
      simp only [e12, e13] at hK
      have hK := Lib.hid hK
      go_wp2_with fail
      refine (fMul hu3 hu4 _).mono ?_
      rintro e w2 ⟨x, rfl, hx, hb2⟩
      go_wp2
      exact hK.out _ _ ⟨x, rfl, hx⟩ hb2 nof
    refine steps2_cons ?_ ?_
    · intro f w1 hb hd Q hK
      clear hd
      have hK := Lib.hid hK
      have c0 : w1.cell? ⟨G1, 0, none⟩ = some (.int .u64 u2.a0) := (k1.below hb).cell 0
      have c1 : w1.cell? ⟨G1, 1, none⟩ = some (.int .u64 u2.a1) := (k1.below hb).cell 1
      have c2 : w1.cell? ⟨G1, 2, none⟩ = some (.int .u64 u2.a2) := (k1.below hb).cell 2
      have c3 : w1.cell? ⟨G1, 3, none⟩ = some (.int .u64 u2.a3) := (k1.below hb).cell 3
      have c4 : w1.cell? ⟨G1, 4, none⟩ = some (.int .u64 u2.a4) := (k1.below hb).cell 4
      go_wp2
      exact hK.out _ _ rfl (.refl _ _) nof
    refine steps2_cons ?_ ?_
    · intro f w1 hb hd Q hK
      clear hd
      have hK := Lib.hid hK
      have c0 : w1.cell? ⟨G2, 0, none⟩ = some (.int .u64 u3.a0) := (k2.below hb).cell 0
      have c1 : w1.cell? ⟨G2, 1, none⟩ = some (.int .u64 u3.a1) := (k2.below hb).cell 1
      have c2 : w1.cell? ⟨G2, 2, none⟩ = some (.int .u64 u3.a2) := (k2.below hb).cell 2
      have c3 : w1.cell? ⟨G2, 3, none⟩ = some (.int .u64 u3.a3) := (k2.below hb).cell 3
      have c4 : w1.cell? ⟨G2, 4, none⟩ = some (.int .u64 u3.a4) := (k2.below hb).cell 4
      go_wp2
      exact hK.out _ _ rfl (.refl _ _) nof
    refine steps2_cons ?_ ?_
    · intro f w1 hb hd Q hK
      have e15 : f 15 = .agg #[.int .u64 u2.a0, .int .u64 u2.a1, .int .u64 u2.a2, .int .u64 u2.a3, .int .u64 u2.a4] := hd.1 rfl
      have e16 : f 16 = .agg #[.int .u64 u3.a0, .int .u64 u3.a1, .int .u64 u3.a2, .int .u64 u3.a3, .int .u64 u3.a4] := hd.2.1 rfl
      clear hd
      simp only [e15, e16] at hK
      have hK := Lib.hid hK
      go_wp2_with fail
      refine (fMul hu2 hu3 _).mono ?_
      rintro e w2 ⟨x, rfl, hx, hb2⟩
      go_wp2
      exact hK.out _ _ ⟨x, rfl, hx⟩ hb2 nof
    refine steps2_cons ?_ ?_
    · intro f w1 hb hd Q hK
      clear hd
      have hK := Lib.hid hK
      have c0 : w1.cell? ⟨G0, 0, none⟩ = some (.int .u64 u1.a0) := (k0.below hb).cell 0
      have c1 : w1.cell? ⟨G0, 1, none⟩ = some (.int .u64 u1.a1) := (k0.below hb).cell 1
      have c2 : w1.cell? ⟨G0, 2, none⟩ = some (.int .u64 u1.a2) := (k0.below hb).cell 2
      have c3 : w1.cell? ⟨G0, 3, none⟩ = some (.int .u64 u1.a3) := (k0.below hb).cell 3
      have c4 : w1.cell? ⟨G0, 4, none⟩ = some (.int .u64 u1.a4) := (k0.below hb).cell 4
      go_wp2
      exact hK.out _ _ rfl (.refl _ _) nof
    refine steps2_cons ?_ ?_
    · intro f w1 hb hd Q hK
      clear hd
      have hK := Lib.hid hK
      have c0 : w1.cell? ⟨G3, 0, none⟩ = some (.int .u64 u4.a0) := (k3.below hb).cell 0
      have c1 : w1.cell? ⟨G3, 1, none⟩ = some (.int .u64 u4.a1) := (k3.below hb).cell 1
      have c2 : w1.cell? ⟨G3, 2, none⟩ = some (.int .u64 u4.a2) := (k3.below hb).cell 2
      have c3 : w1.cell? ⟨G3, 3, none⟩ = some (.int .u64 u4.a3) := (k3.below hb).cell 3
      have c4 : w1.cell? ⟨G3, 4, none⟩ = some (.int .u64 u4.a4) := (k3.below hb).cell 4
      go_wp2
      exact hK.out _ _ rfl (.refl _ _) nof
    refine steps2_cons ?_ ?_
    · intro f w1 hb hd Q hK
      have e18 : f 18 = .agg #[.int .u64 u1.a0, .int .u64 u1.a1, .int .u64 u1.a2, .int .u64 u1.a3, .int .u64 u1.a4] := hd.1 rfl
      have e19 : f 19 = .agg #[.int .u64 u4.a0, .int .u64 u4.a1, .int .u64 u4.a2, .int .u64 u4.a3, .int .u64 u4.a4] := hd.2.1 rfl
      clear hd
      simp only [e18, e19] at hK
      have hK := Lib.hid hK
      go_wp2_with fail
      refine (fMul hu1 hu4 _).mono ?_
      rintro e w2 ⟨x, rfl, hx, hb2⟩
      go_wp2
      exact hK.out _ _ ⟨x, rfl, hx⟩ hb2 nof
    refine steps2_cons ?_ ?_
    · intro f w1 hb hd Q hK
      obtain ⟨x11, e11, h11⟩ := (hd.1 rfl : ElP (a * b % Fe.P) (f 11) w1)
      obtain ⟨x14, e14, h14⟩ := (hd.2.1 rfl : ElP (c * d % Fe.P) (f 14) w1)
      obtain ⟨x17, e17, h17⟩ := (hd.2.2.1 rfl : ElP (b * c % Fe.P) (f 17) w1)
      obtain ⟨x20, e20, h20⟩ := (hd.2.2.2.1 rfl : ElP (a * d % Fe.P) (f 20) w1)
      clear hd
      simp only [e11, e14, e17, e20] at hK
      have hK := Lib.hid hK
      go_wp2
      exact hK.out _ _ ⟨x11, x14, x17, x20, rfl, h11, h14, h17, h20⟩ (.refl _ _) nof
    trivial
  intro ff yw hb hf hne
  obtain ⟨p21, q21, r21, s21, d21, hp21, hq21, hr21, hs21⟩ : PtP (a * b % Fe.P) (c * d % Fe.P) (b * c % Fe.P) (a * d % Fe.P) (ff 21) yw := hf 12 _ _ (by decide) rfl rfl
  clear hf hne
  simp only [d21]
  clear d21
  replace k4 := k4.below hb
  replace hb0 := hb0.trans (hb.mono hb0.size)
  refine stPt rfl rfl rfl rfl k4 rfl rfl (by kernel_rfl) ?_
  intro w2 k5 hgr hsz
  replace hb0 := hb0.grown hgr hb0.size (fun k hk => by injection hk with hk; omega)
  clear hgr hsz hb
  refine wpList_nil ?_
  go_wp2
  exact retPt rfl rfl k5 rfl rfl ⟨_, _, _, _, rfl, hp21, hq21, hr21, hs21, hb0⟩
def sameP (a b c a2 b2 c2 : Nat) : Bool := decide (a * c2 % Fe.P = a2 * c % Fe.P) && decide (b * c2 % Fe.P = b2 * c % Fe.P)
def safL (x1 : Fe.E) (z1 : Fe.E) (x2 : Fe.E) (z2 : Fe.E) (a : Nat) (c : Nat) (a2 : Nat) (c2 : Nat) (G0 : Nat) (G1 : Nat) : List (Value → World → Prop) := [
  Eq1 (.pointer (some ⟨G0, 0, none⟩)),
  Eq1 (.agg #[.int .u64 x1.a0, .int .u64 x1.a1, .int .u64 x1.a2, .int .u64 x1.a3, .int .u64 x1.a4]),
  Eq1 (.pointer (some ⟨G1, 10, none⟩)),
  Eq1 (.agg #[.int .u64 z2.a0, .int .u64 z2.a1, .int .u64 z2.a2, .int .u64 z2.a3, .int .u64 z2.a4]),
  ElP (a * c2 % Fe.P),
  Eq1 (.pointer (some ⟨G1, 0, none⟩)),
  Eq1 (.agg #[.int .u64 x2.a0, .int .u64 x2.a1, .int .u64 x2.a2, .int .u64 x2.a3, .int .u64 x2.a4]),
  Eq1 (.pointer (some ⟨G0, 10, none⟩)),
  Eq1 (.agg #[.int .u64 z1.a0, .int .u64 z1.a1, .int .u64 z1.a2, .int .u64 z1.a3, .int .u64 z1.a4]),
  ElP (a2 * c % Fe.P),
  Eq1 (.bool false),
  Eq1 (.bool false),
  Eq1 (undef),
  Eq1 (undef),
  Eq1 (undef),
  Eq1 (undef),
  Eq1 (undef),
  Eq1 (undef),
  Eq1 (undef),
  Eq1 (undef),
  Eq1 (undef),
  Eq1 (undef),
  Eq1 (undef),
  Eq1 (.bool false),
  Eq1 (.bool false)]
theorem safS (x1 : Fe.E) (z1 : Fe.E) (x2 : Fe.E) (z2 : Fe.E) (a : Nat) (c : Nat) (a2 : Nat) (c2 : Nat) (G0 : Nat) (G1 : Nat) : ∀ j x' q q', (safL x1 z1 x2 z2 a c a2 c2 G0 G1).getD j (fun _ _ => True) x' q → Below q.heap.size q q' → (safL x1 z1 x2 z2 a c a2 c2 G0 G1).getD j (fun _ _ => True) x' q' := by
  refine sta_all _ ?_
  simp only [safL, List.mem_cons, forall_eq_or_imp, List.not_mem_nil, false_implies, implies_true, and_true]
  exact ⟨sta_eq _, sta_eq _, sta_eq _, sta_eq _, sta_el _, sta_eq _, sta_eq _, sta_eq _, sta_eq _, sta_el _, sta_eq _, sta_eq _, sta_eq _, sta_eq _, sta_eq _, sta_eq _, sta_eq _, sta_eq _, sta_eq _, sta_eq _, sta_eq _, sta_eq _, sta_eq _, sta_eq _, sta_eq _⟩
def satL (x1 : Fe.E) (y1 : Fe.E) (z1 : Fe.E) (x2 : Fe.E) (y2 : Fe.E) (z2 : Fe.E) (a : Nat) (b : Nat) (c : Nat) (a2 : Nat) (b2 : Nat) (c2 : Nat) (G0 : Nat) (G1 : Nat) : List (Value → World → Prop) := [
  Eq1 (.pointer (some ⟨G0, 0, none⟩)),
  Eq1 (.agg #[.int .u64 x1.a0, .int .u64 x1.a1, .int .u64 x1.a2, .int .u64 x1.a3, .int .u64 x1.a4]),
  Eq1 (.pointer (some ⟨G1, 10, none⟩)),
  Eq1 (.agg #[.int .u64 z2.a0, .int .u64 z2.a1, .int .u64 z2.a2, .int .u64 z2.a3, .int .u64 z2.a4]),
  ElP (a * c2 % Fe.P),
  Eq1 (.pointer (some ⟨G1, 0, none⟩)),
  Eq1 (.agg #[.int .u64 x2.a0, .int .u64 x2.a1, .int .u64 x2.a2, .int .u64 x2.a3, .int .u64 x2.a4]),
  Eq1 (.pointer (some ⟨G0, 10, none⟩)),
  Eq1 (.agg #[.int .u64 z1.a0, .int .u64 z1.a1, .int .u64 z1.a2, .int .u64 z1.a3, .int .u64 z1.a4]),
  ElP (a2 * c % Fe.P),
  Eq1 (.bool true),
  Eq1 (.bool true),
  Eq1 (.pointer (some ⟨G0, 5, none⟩)),
  Eq1 (.agg #[.int .u64 y1.a0, .int .u64 y1.a1, .int .u64 y1.a2, .int .u64 y1.a3, .int .u64 y1.a4]),
  Eq1 (.pointer (some ⟨G1, 10, none⟩)),
  Eq1 (.agg #[.int .u64 z2.a0, .int .u64 z2.a1, .int .u64 z2.a2, .int .u64 z2.a3, .int .u64 z2.a4]),
  ElP (b * c2 % Fe.P),
  Eq1 (.pointer (some ⟨G1, 5, none⟩)),
  Eq1 (.agg #[.int .u64 y2.a0, .int .u64 y2.a1, .int .u64 y2.a2, .int .u64 y2.a3, .int .u64 y2.a4]),
  Eq1 (.pointer (some ⟨G0, 10, none⟩)),
  Eq1 (.agg #[.int .u64 z1.a0, .int .u64 z1.a1, .int .u64 z1.a2, .int .u64 z1.a3, .int .u64 z1.a4]),
  ElP (b2 * c % Fe.P),
  Eq1 (.bool (decide ((b * c2 % Fe.P) = (b2 * c % Fe.P)))),
  Eq1 (.bool (decide ((b * c2 % Fe.P) = (b2 * c % Fe.P)))),
  Eq1 (.bool (decide ((b * c2 % Fe.P) = (b2 * c % Fe.P))))]
theorem satS (x1 : Fe.E) (y1 : Fe.E) (z1 : Fe.E) (x2 : Fe.E) (y2 : Fe.E) (z2 : Fe.E) (a : Nat) (b : Nat) (c : Nat) (a2 : Nat) (b2 : Nat) (c2 : Nat) (G0 : Nat) (G1 : Nat) : ∀ j x' q q', (satL x1 y1 z1 x2 y2 z2 a b c a2 b2 c2 G0 G1).getD j (fun _ _ => True) x' q → Below q.heap.size q q' → (satL x1 y1 z1 x2 y2 z2 a b c a2 b2 c2 G0 G1).getD j (fun _ _ => True) x' q' := by
  refine sta_all _ ?_
  simp only [satL, List.mem_cons, forall_eq_or_imp, List.not_mem_nil, false_implies, implies_true, and_true]
  exact ⟨sta_eq _, sta_eq _, sta_eq _, sta_eq _, sta_el _, sta_eq _, sta_eq _, sta_eq _, sta_eq _, sta_el _, sta_eq _, sta_eq _, sta_eq _, sta_eq _, sta_eq _, sta_eq _, sta_el _, sta_eq _, sta_eq _, sta_eq _, sta_eq _, sta_el _, sta_eq _, sta_eq _, sta_eq _⟩
set_option maxRecDepth 20000 in
set_option maxHeartbeats 8000000 in
theorem psame_c {x1 y1 z1 t1 : Fe.E} {a b c : Nat} (hx1 : El x1 a) (hy1 : El y1 b) (hz1 : El z1 c) {x2 y2 z2 t2 : Fe.E} {a2 b2 c2 : Nat} (hx2 : El x2 a2) (hy2 : El y2 b2) (hz2 : El z2 c2) (w : World) : Calls Tryd.prog 12 #[.agg #[.int .u64 x1.a0, .int .u64 x1.a1, .int .u64 x1.a2, .int .u64 x1.a3, .int .u64 x1.a4, .int .u64 y1.a0, .int .u64 y1.a1, .int .u64 y1.a2, .int .u64 y1.a3, .int .u64 y1.a4, .int .u64 z1.a0, .int .u64 z1.a1, .int .u64 z1.a2, .int .u64 z1.a3, .int .u64 z1.a4, .int .u64 t1.a0, .int .u64 t1.a1, .int .u64 t1.a2, .int .u64 t1.a3, .int .u64 t1.a4], .agg #[.int .u64 x2.a0, .int .u64 x2.a1, .int .u64 x2.a2, .int .u64 x2.a3, .int .u64 x2.a4, .int .u64 y2.a0, .int .u64 y2.a1, .int .u64 y2.a2, .int .u64 y2.a3, .int .u64 y2.a4, .int .u64 z2.a0, .int .u64 z2.a1, .int .u64 z2.a2, .int .u64 z2.a3, .int .u64 z2.a4, .int .u64 t2.a0, .int .u64 t2.a1, .int .u64 t2.a2, .int .u64 t2.a3, .int .u64 t2.a4]] w (PostV (.bool (sameP a b c a2 b2 c2)) w) := by
  go_enter Tryd.func12, Tryd.ntmps12
  go_wp2_with fail
  refine at_world (fun W0 hW => ?_)
  have k0 : Blk W0 (w.heap.size) 30 #[.int .u64 x1.a0, .int .u64 x1.a1, .int .u64 x1.a2, .int .u64 x1.a3, .int .u64 x1.a4, .int .u64 y1.a0, .int .u64 y1.a1, .int .u64 y1.a2, .int .u64 y1.a3, .int .u64 y1.a4, .int .u64 z1.a0, .int .u64 z1.a1, .int .u64 z1.a2, .int .u64 z1.a3, .int .u64 z1.a4, .int .u64 t1.a0, .int .u64 t1.a1, .int .u64 t1.a2, .int .u64 t1.a3, .int .u64 t1.a4] := by rw [hW]; exact (Blk.new _ _ _).alloc _
  have k1 : Blk W0 (w.heap.size + 1) 30 #[.int .u64 x2.a0, .int .u64 x2.a1, .int .u64 x2.a2, .int .u64 x2.a3, .int .u64 x2.a4, .int .u64 y2.a0, .int .u64 y2.a1, .int .u64 y2.a2, .int .u64 y2.a3, .int .u64 y2.a4, .int .u64 z2.a0, .int .u64 z2.a1, .int .u64 z2.a2, .int .u64 z2.a3, .int .u64 z2.a4, .int .u64 t2.a0, .int .u64 t2.a1, .int .u64 t2.a2, .int .u64 t2.a3, .int .u64 t2.a4] := by rw [hW]; exact blk_at (by simp) (Blk.new _ _ _)
  have hb0 : Below w.heap.size w W0 := by rw [hW]; go_grown
  clear hW
  obtain ⟨G1, hG1⟩ : ∃ G1, G1 = w.heap.size + 1 := ⟨_, rfl⟩
  rw [← hG1] at k1 ⊢
  obtain ⟨G0, hG0⟩ : ∃ G0, G0 = w.heap.size := ⟨_, rfl⟩
  rw [← hG0] at k0 ⊢
  have lo_G0 : w.heap.size ≤ G0 := by omega
  have lo_G1 : w.heap.size ≤ G1 := by omega
  have ne_G0_G1 : G0 ≠ G1 := by omega
  clear hG0 hG1
  cases hE : decide (a * c2 % Fe.P = a2 * c % Fe.P)
  · refine wp_region_grow2 25 (fun k => (Nat.ble 4 k && Nat.ble k 28)) _ [] (fun j x' q => (safL x1 z1 x2 z2 a c a2 c2 G0 G1).getD j (fun _ _ => True) x' q) (fun _ => false) (fun f => #[.agg #[.int .u64 x1.a0, .int .u64 x1.a1, .int .u64 x1.a2, .int .u64 x1.a3, .int .u64 x1.a4, .int .u64 y1.a0, .int .u64 y1.a1, .int .u64 y1.a2, .int .u64 y1.a3, .int .u64 y1.a4, .int .u64 z1.a0, .int .u64 z1.a1, .int .u64 z1.a2, .int .u64 z1.a3, .int .u64 z1.a4, .int .u64 t1.a0, .int .u64 t1.a1, .int .u64 t1.a2, .int .u64 t1.a3, .int .u64 t1.a4], .agg #[.int .u64 x2.a0, .int .u64 x2.a1, .int .u64 x2.a2, .int .u64 x2.a3, .int .u64 x2.a4, .int .u64 y2.a0, .int .u64 y2.a1, .int .u64 y2.a2, .int .u64 y2.a3, .int .u64 y2.a4, .int .u64 z2.a0, .int .u64 z2.a1, .int .u64 z2.a2, .int .u64 z2.a3, .int .u64 z2.a4, .int .u64 t2.a0, .int .u64 t2.a1, .int .u64 t2.a2, .int .u64 t2.a3, .int .u64 t2.a4], .pointer (some ⟨G0, 0, none⟩), .pointer (some ⟨G1, 0, none⟩), f 4, f 5, f 6, f 7, f 8, f 9, f 10, f 11, f 12, f 13, f 14, f 15, f 16, f 17, f 18, f 19, f 20, f 21, f 22, f 23, f 24, f 25, f 26, f 27, f 28]) (fun f => rfl) (by kernel_rfl) (by kernel_rfl) (by kernel_rfl) (by kernel_rfl) (by kernel_rfl) (safS _ _ _ _ _ _ _ _ _ _) (fun _ _ _ h => by cases h) ?_ ?_
    · refine steps2_cons ?_ ?_
      · intro f w1 hb hd Q hK
        clear hd
        have hK := Lib.hid hK
        go_wp2
        exact hK.out _ _ rfl (.refl _ _) nof
      refine steps2_cons ?_ ?_
      · intro f w1 hb hd Q hK
        have e5 : f 5 = .pointer (some ⟨G0, 0, none⟩) := hd.1 rfl
        clear hd
        simp only [e5] at hK
        have hK := Lib.hid hK
        have c0 : w1.cell? ⟨G0, 0, none⟩ = some (.int .u64 x1.a0) := (k0.below hb).cell 0
        have c1 : w1.cell? ⟨G0, 1, none⟩ = some (.int .u64 x1.a1) := (k0.below hb).cell 1
        have c2 : w1.cell? ⟨G0, 2, none⟩ = some (.int .u64 x1.a2) := (k0.below hb).cell 2
        have c3 : w1.cell? ⟨G0, 3, none⟩ = some (.int .u64 x1.a3) := (k0.below hb).cell 3
        have c4 : w1.cell? ⟨G0, 4, none⟩ = some (.int .u64 x1.a4) := (k0.below hb).cell 4
        go_wp2
        exact hK.out _ _ rfl (.refl _ _) nof
      refine steps2_cons ?_ ?_
      · intro f w1 hb hd Q hK
        clear hd
        have hK := Lib.hid hK
        go_wp2
        exact hK.out _ _ rfl (.refl _ _) nof
      refine steps2_cons ?_ ?_
      · intro f w1 hb hd Q hK
        have e7 : f 7 = .pointer (some ⟨G1, 10, none⟩) := hd.1 rfl
        clear hd
        simp only [e7] at hK
        have hK := Lib.hid hK
        have c0 : w1.cell? ⟨G1, 10, none⟩ = some (.int .u64 z2.a0) := (k1.below hb).cell 10
        have c1 : w1.cell? ⟨G1, 11, none⟩ = some (.int .u64 z2.a1) := (k1.below hb).cell 11
        have c2 : w1.cell? ⟨G1, 12, none⟩ = some (.int .u64 z2.a2) := (k1.below hb).cell 12
        have c3 : w1.cell? ⟨G1, 13, none⟩ = some (.int .u64 z2.a3) := (k1.below hb).cell 13
        have c4 : w1.cell? ⟨G1, 14, none⟩ = some (.int .u64 z2.a4) := (k1.below hb).cell 14
        go_wp2
        exact hK.out _ _ rfl (.refl _ _) nof
      refine steps2_cons ?_ ?_
      · intro f w1 hb hd Q hK
        have e6 : f 6 = .agg #[.int .u64 x1.a0, .int .u64 x1.a1, .int .u64 x1.a2, .int .u64 x1.a3, .int .u64 x1.a4] := hd.1 rfl
        have e8 : f 8 = .agg #[.int .u64 z2.a0, .int .u64 z2.a1, .int .u64 z2.a2, .int .u64 z2.a3, .int .u64 z2.a4] := hd.2.1 rfl
        clear hd
        simp only [e6, e8] at hK
        have hK := Lib.hid hK
        go_wp2_with fail
        refine (fMul hx1 hz2 _).mono ?_
        rintro e w2 ⟨x, rfl, hx, hb2⟩
        go_wp2
        exact hK.out _ _ ⟨x, rfl, hx⟩ hb2 nof
      refine steps2_cons ?_ ?_
      · intro f w1 hb hd Q hK
        clear hd
        have hK := Lib.hid hK
        go_wp2
        exact hK.out _ _ rfl (.refl _ _) nof
      refine steps2_cons ?_ ?_
      · intro f w1 hb hd Q hK
        have e10 : f 10 = .pointer (some ⟨G1, 0, none⟩) := hd.1 rfl
        clear hd
        simp only [e10] at hK
        have hK := Lib.hid hK
        have c0 : w1.cell? ⟨G1, 0, none⟩ = some (.int .u64 x2.a0) := (k1.below hb).cell 0
        have c1 : w1.cell? ⟨G1, 1, none⟩ = some (.int .u64 x2.a1) := (k1.below hb).cell 1
        have c2 : w1.cell? ⟨G1, 2, none⟩ = some (.int .u64 x2.a2) := (k1.below hb).cell 2
        have c3 : w1.cell? ⟨G1, 3, none⟩ = some (.int .u64 x2.a3) := (k1.below hb).cell 3
        have c4 : w1.cell? ⟨G1, 4, none⟩ = some (.int .u64 x2.a4) := (k1.below hb).cell 4
        go_wp2
        exact hK.out _ _ rfl (.refl _ _) nof
      refine steps2_cons ?_ ?_
      · intro f w1 hb hd Q hK
        clear hd
        have hK := Lib.hid hK
        go_wp2
        exact hK.out _ _ rfl (.refl _ _) nof
      refine steps2_cons ?_ ?_
      · intro f w1 hb hd Q hK
        have e12 : f 12 = .pointer (some ⟨G0, 10, none⟩) := hd.1 rfl
        clear hd
        simp only [e12] at hK
        have hK := Lib.hid hK
        have c0 : w1.cell? ⟨G0, 10, none⟩ = some (.int .u64 z1.a0) := (k0.below hb).cell 10
        have c1 : w1.cell? ⟨G0, 11, none⟩ = some (.int .u64 z1.a1) := (k0.below hb).cell 11
        have c2 : w1.cell? ⟨G0, 12, none⟩ = some (.int .u64 z1.a2) := (k0.below hb).cell 12
        have c3 : w1.cell? ⟨G0, 13, none⟩ = some (.int .u64 z1.a3) := (k0.below hb).cell 13
        have c4 : w1.cell? ⟨G0, 14, none⟩ = some (.int .u64 z1.a4) := (k0.below hb).cell 14
        go_wp2
        exact hK.out _ _ rfl (.refl _ _) nof
      refine steps2_cons ?_ ?_
      · intro f w1 hb hd Q hK
        have e11 : f 11 = .agg #[.int .u64 x2.a0, .int .u64 x2.a1, .int .u64 x2.a2, .int .u64 x2.a3, .int .u64 x2.a4] := hd.1 rfl
        have e13 : f 13 = .agg #[.int .u64 z1.a0, .int .u64 z1.a1, .int .u64 z1.a2, .int .u64 z1.a3, .int .u64 z1.a4] := hd.2.1 rfl
        clear hd
        simp only [e11, e13] at hK
        have hK := Lib.hid hK
        go_wp2_with fail
        refine (fMul hx2 hz1 _).mono ?_
        rintro e w2 ⟨x, rfl, hx, hb2⟩
        go_wp2
        exact hK.out _ _ ⟨x, rfl, hx⟩ hb2 nof
      refine steps2_cons ?_ ?_
      · intro f w1 hb hd Q hK
        obtain ⟨x9, e9, h9⟩ := (hd.1 rfl : ElP (a * c2 % Fe.P) (f 9) w1)
        obtain ⟨x14, e14, h14⟩ := (hd.2.1 rfl : ElP (a2 * c % Fe.P) (f 14) w1)
        clear hd
        simp only [e9, e14] at hK
        have hK := Lib.hid hK
        go_wp2_with fail
        refine (fSameV h9 h14 hE _).mono ?_
        rintro e w2 ⟨rfl, hb2⟩
        go_wp2
        exact hK.out _ _ rfl hb2 nof
      refine steps2_cons ?_ ?_
      · intro f w1 hb hd Q hK
        have e15 : f 15 = .bool false := hd.1 rfl
        clear hd
        simp only [e15] at hK
        have hK := Lib.hid hK
        go_wp2
        exact hK.out _ _ rfl (.refl _ _) nof
      refine steps2_cons ?_ ?_
      · intro f w1 hb hd Q hK
        have e16 : f 16 = .bool false := hd.1 rfl
        clear hd
        simp only [e16] at hK
        have hK := Lib.hid hK
        go_wp2
        exact hK.out _ _ rfl (.refl _ _) nof
      refine steps2_cons ?_ ?_
      · intro f w1 hb hd Q hK
        have e17 : f 17 = undef := hd.1 rfl
        have e16 : f 16 = .bool false := hd.2.1 rfl
        clear hd
        simp only [e17, e16] at hK
        have hK := Lib.hid hK
        go_wp2
        exact hK.out _ _ rfl (.refl _ _) nof
      refine steps2_cons ?_ ?_
      · intro f w1 hb hd Q hK
        have e16 : f 16 = .bool false := hd.1 rfl
        clear hd
        simp only [e16] at hK
        have hK := Lib.hid hK
        go_wp2
        exact hK.out _ _ rfl (.refl _ _) nof
      refine steps2_cons ?_ ?_
      · intro f w1 hb hd Q hK
        have e19 : f 19 = undef := hd.1 rfl
        have e16 : f 16 = .bool false := hd.2.1 rfl
        clear hd
        simp only [e19, e16] at hK
        have hK := Lib.hid hK
        go_wp2
        exact hK.out _ _ rfl (.refl _ _) nof
      refine steps2_cons ?_ ?_
      · intro f w1 hb hd Q hK
        have e18 : f 18 = undef := hd.1 rfl
        have e20 : f 20 = undef := hd.2.1 rfl
        have e16 : f 16 = .bool false := hd.2.2.1 rfl
        clear hd
        simp only [e18, e20, e16] at hK
        have hK := Lib.hid hK
        go_wp2
        exact hK.out _ _ rfl (.refl _ _) nof
      refine steps2_cons ?_ ?_
      · intro f w1 hb hd Q hK
        have e16 : f 16 = .bool false := hd.1 rfl
        clear hd
        simp only [e16] at hK
        have hK := Lib.hid hK
        go_wp2
        exact hK.out _ _ rfl (.refl _ _) nof
      refine steps2_cons ?_ ?_
      · intro f w1 hb hd Q hK
        have e22 : f 22 = undef := hd.1 rfl
        have e16 : f 16 = .bool false := hd.2.1 rfl
        clear hd
        simp only [e22, e16] at hK
        have hK := Lib.hid hK
        go_wp2
        exact hK.out _ _ rfl (.refl _ _) nof
      refine steps2_cons ?_ ?_
      · intro f w1 hb hd Q hK
        have e16 : f 16 = .bool false := hd.1 rfl
        clear hd
        simp only [e16] at hK
        have hK := Lib.hid hK
        go_wp2
        exact hK.out _ _ rfl (.refl _ _) nof
      refine steps2_cons ?_ ?_
      · intro f w1 hb hd Q hK
        have e24 : f 24 = undef := hd.1 rfl
        have e16 : f 16 = .bool false := hd.2.1 rfl
        clear hd
        simp only [e24, e16] at hK
        have hK := Lib.hid hK
        go_wp2
        exact hK.out _ _ rfl (.refl _ _) nof
      refine steps2_cons ?_ ?_
      · intro f w1 hb hd Q hK
        have e23 : f 23 = undef := hd.1 rfl
        have e25 : f 25 = undef := hd.2.1 rfl
        have e16 : f 16 = .bool false := hd.2.2.2.1 rfl
        clear hd
        simp only [e23, e25, e16] at hK
        have hK := Lib.hid hK
        go_wp2
        exact hK.out _ _ rfl (.refl _ _) nof
      refine steps2_cons ?_ ?_
      · intro f w1 hb hd Q hK
        have e21 : f 21 = undef := hd.1 rfl
        have e26 : f 26 = undef := hd.2.1 rfl
        have e16 : f 16 = .bool false := hd.2.2.2.1 rfl
        clear hd
        simp only [e21, e26, e16] at hK
        have hK := Lib.hid hK
        go_wp2
        exact hK.out _ _ rfl (.refl _ _) nof
      refine steps2_cons ?_ ?_
      · intro f w1 hb hd Q hK
        have e16 : f 16 = .bool false := hd.1 rfl
        have e27 : f 27 = undef := hd.2.1 rfl
        clear hd
        simp only [e16, e27] at hK
        have hK := Lib.hid hK
        go_wp2
        exact hK.out _ _ rfl (.refl _ _) nof
      refine steps2_cons ?_ ?_
      · intro f w1 hb hd Q hK
        have e28 : f 28 = .bool false := hd.1 rfl
        clear hd
        simp only [e28] at hK
        have hK := Lib.hid hK
        go_wp2
        exact hK.out _ _ rfl (.refl _ _) nof
      trivial
    intro ff yw hb hf hne
    refine wpList_nil ?_
    have d4 : ff 4 = .bool false := hf 24 _ _ (by decide) rfl rfl
    clear hf hne
    replace hb0 := hb0.trans (hb.mono hb0.size)
    simp only [d4]
    clear d4
    go_wp2
    go_returns
    exact ⟨by unfold sameP; rw [hE]; rfl, hb0⟩
  refine wp_region_grow2 25 (fun k => (Nat.ble 4 k && Nat.ble k 28)) _ [] (fun j x' q => (satL x1 y1 z1 x2 y2 z2 a b c a2 b2 c2 G0 G1).getD j (fun _ _ => True) x' q) (fun _ => false) (fun f => #[.agg #[.int .u64 x1.a0, .int .u64 x1.a1, .int .u64 x1.a2, .int .u64 x1.a3, .int .u64 x1.a4, .int .u64 y1.a0, .int .u64 y1.a1, .int .u64 y1.a2, .int .u64 y1.a3, .int .u64 y1.a4, .int .u64 z1.a0, .int .u64 z1.a1, .int .u64 z1.a2, .int .u64 z1.a3, .int .u64 z1.a4, .int .u64 t1.a0, .int .u64 t1.a1, .int .u64 t1.a2, .int .u64 t1.a3, .int .u64 t1.a4], .agg #[.int .u64 x2.a0, .int .u64 x2.a1, .int .u64 x2.a2, .int .u64 x2.a3, .int .u64 x2.a4, .int .u64 y2.a0, .int .u64 y2.a1, .int .u64 y2.a2, .int .u64 y2.a3, .int .u64 y2.a4, .int .u64 z2.a0, .int .u64 z2.a1, .int .u64 z2.a2, .int .u64 z2.a3, .int .u64 z2.a4, .int .u64 t2.a0, .int .u64 t2.a1, .int .u64 t2.a2, .int .u64 t2.a3, .int .u64 t2.a4], .pointer (some ⟨G0, 0, none⟩), .pointer (some ⟨G1, 0, none⟩), f 4, f 5, f 6, f 7, f 8, f 9, f 10, f 11, f 12, f 13, f 14, f 15, f 16, f 17, f 18, f 19, f 20, f 21, f 22, f 23, f 24, f 25, f 26, f 27, f 28]) (fun f => rfl) (by kernel_rfl) (by kernel_rfl) (by kernel_rfl) (by kernel_rfl) (by kernel_rfl) (satS _ _ _ _ _ _ _ _ _ _ _ _ _ _) (fun _ _ _ h => by cases h) ?_ ?_
  · refine steps2_cons ?_ ?_
    · intro f w1 hb hd Q hK
      clear hd
      have hK := Lib.hid hK
      go_wp2
      exact hK.out _ _ rfl (.refl _ _) nof
    refine steps2_cons ?_ ?_
    · intro f w1 hb hd Q hK
      have e5 : f 5 = .pointer (some ⟨G0, 0, none⟩) := hd.1 rfl
      clear hd
      simp only [e5] at hK
      have hK := Lib.hid hK
      have c0 : w1.cell? ⟨G0, 0, none⟩ = some (.int .u64 x1.a0) := (k0.below hb).cell 0
      have c1 : w1.cell? ⟨G0, 1, none⟩ = some (.int .u64 x1.a1) := (k0.below hb).cell 1
      have c2 : w1.cell? ⟨G0, 2, none⟩ = some (.int .u64 x1.a2) := (k0.below hb).cell 2
      have c3 : w1.cell? ⟨G0, 3, none⟩ = some (.int .u64 x1.a3) := (k0.below hb).cell 3
      have c4 : w1.cell? ⟨G0, 4, none⟩ = some (.int .u64 x1.a4) := (k0.below hb).cell 4
      go_wp2
      exact hK.out _ _ rfl (.refl _ _) nof
    refine steps2_cons ?_ ?_
    · intro f w1 hb hd Q hK
      clear hd
      have hK := Lib.hid hK
      go_wp2
      exact hK.out _ _ rfl (.refl _ _) nof
    refine steps2_cons ?_ ?_
    · intro f w1 hb hd Q hK
      have e7 : f 7 = .pointer (some ⟨G1, 10, none⟩) := hd.1 rfl
      clear hd
      simp only [e7] at hK
      have hK := Lib.hid hK
      have c0 : w1.cell? ⟨G1, 10, none⟩ = some (.int .u64 z2.a0) := (k1.below hb).cell 10
      have c1 : w1.cell? ⟨G1, 11, none⟩ = some (.int .u64 z2.a1) := (k1.below hb).cell 11
      have c2 : w1.cell? ⟨G1, 12, none⟩ = some (.int .u64 z2.a2) := (k1.below hb).cell 12
      have c3 : w1.cell? ⟨G1, 13, none⟩ = some (.int .u64 z2.a3) := (k1.below hb).cell 13
      have c4 : w1.cell? ⟨G1, 14, none⟩ = some (.int .u64 z2.a4) := (k1.below hb).cell 14
      go_wp2
      exact hK.out _ _ rfl (.refl _ _) nof
    refine steps2_cons ?_ ?_
    · intro f w1 hb hd Q hK
      have e6 : f 6 = .agg #[.int .u64 x1.a0, .int .u64 x1.a1, .int .u64 x1.a2, .int .u64 x1.a3, .int .u64 x1.a4] := hd.1 rfl
      have e8 : f 8 = .agg #[.int .u64 z2.a0, .int .u64 z2.a1, .int .u64 z2.a2, .int .u64 z2.a3, .int .u64 z2.a4] := hd.2.1 rfl
      clear hd
      simp only [e6, e8] at hK
      have hK := Lib.hid hK
      go_wp2_with fail
      refine (fMul hx1 hz2 _).mono ?_
      rintro e w2 ⟨x, rfl, hx, hb2⟩
      go_wp2
      exact hK.out _ _ ⟨x, rfl, hx⟩ hb2 nof
    refine steps2_cons ?_ ?_
    · intro f w1 hb hd Q hK
      clear hd
      have hK := Lib.hid hK
      go_wp2
      exact hK.out _ _ rfl (.refl _ _) nof
    refine steps2_cons ?_ ?_
    · intro f w1 hb hd Q hK
      have e10 : f 10 = .pointer (some ⟨G1, 0, none⟩) := hd.1 rfl
      clear hd
      simp only [e10] at hK
      have hK := Lib.hid hK
      have c0 : w1.cell? ⟨G1, 0, none⟩ = some (.int .u64 x2.a0) := (k1.below hb).cell 0
      have c1 : w1.cell? ⟨G1, 1, none⟩ = some (.int .u64 x2.a1) := (k1.below hb).cell 1
      have c2 : w1.cell? ⟨G1, 2, none⟩ = some (.int .u64 x2.a2) := (k1.below hb).cell 2
      have c3 : w1.cell? ⟨G1, 3, none⟩ = some (.int .u64 x2.a3) := (k1.below hb).cell 3
      have c4 : w1.cell? ⟨G1, 4, none⟩ = some (.int .u64 x2.a4) := (k1.below hb).cell 4
      go_wp2
      exact hK.out _ _ rfl (.refl _ _) nof
    refine steps2_cons ?_ ?_
    · intro f w1 hb hd Q hK
      clear hd
      have hK := Lib.hid hK
      go_wp2
      exact hK.out _ _ rfl (.refl _ _) nof
    refine steps2_cons ?_ ?_
    · intro f w1 hb hd Q hK
      have e12 : f 12 = .pointer (some ⟨G0, 10, none⟩) := hd.1 rfl
      clear hd
      simp only [e12] at hK
      have hK := Lib.hid hK
      have c0 : w1.cell? ⟨G0, 10, none⟩ = some (.int .u64 z1.a0) := (k0.below hb).cell 10
      have c1 : w1.cell? ⟨G0, 11, none⟩ = some (.int .u64 z1.a1) := (k0.below hb).cell 11
      have c2 : w1.cell? ⟨G0, 12, none⟩ = some (.int .u64 z1.a2) := (k0.below hb).cell 12
      have c3 : w1.cell? ⟨G0, 13, none⟩ = some (.int .u64 z1.a3) := (k0.below hb).cell 13
      have c4 : w1.cell? ⟨G0, 14, none⟩ = some (.int .u64 z1.a4) := (k0.below hb).cell 14
      go_wp2
      exact hK.out _ _ rfl (.refl _ _) nof
    refine steps2_cons ?_ ?_
    · intro f w1 hb hd Q hK
      have e11 : f 11 = .agg #[.int .u64 x2.a0, .int .u64 x2.a1, .int .u64 x2.a2, .int .u64 x2.a3, .int .u64 x2.a4] := hd.1 rfl
      have e13 : f 13 = .agg #[.int .u64 z1.a0, .int .u64 z1.a1, .int .u64 z1.a2, .int .u64 z1.a3, .int .u64 z1.a4] := hd.2.1 rfl
      clear hd
      simp only [e11, e13] at hK
      have hK := Lib.hid hK
      go_wp2_with fail
      refine (fMul hx2 hz1 _).mono ?_
      rintro e w2 ⟨x, rfl, hx, hb2⟩
      go_wp2
      exact hK.out _ _ ⟨x, rfl, hx⟩ hb2 nof
    refine steps2_cons ?_ ?_
    · intro f w1 hb hd Q hK
      obtain ⟨x9, e9, h9⟩ := (hd.1 rfl : ElP (a * c2 % Fe.P) (f 9) w1)
      obtain ⟨x14, e14, h14⟩ := (hd.2.1 rfl : ElP (a2 * c % Fe.P) (f 14) w1)
      clear hd
      simp only [e9, e14] at hK
      have hK := Lib.hid hK
      go_wp2_with fail
      refine (fSameV h9 h14 hE _).mono ?_
      rintro e w2 ⟨rfl, hb2⟩
      go_wp2
      exact hK.out _ _ rfl hb2 nof
    refine steps2_cons ?_ ?_
    · intro f w1 hb hd Q hK
      have e15 : f 15 = .bool true := hd.1 rfl
      clear hd
      simp only [e15] at hK
      have hK := Lib.hid hK
      go_wp2
      exact hK.out _ _ rfl (.refl _ _) nof
    refine steps2_cons ?_ ?_
    · intro f w1 hb hd Q hK
      have e16 : f 16 = .bool true := hd.1 rfl
      clear hd
      simp only [e16] at hK
      have hK := Lib.hid hK
      go_wp2
      exact hK.out _ _ rfl (.refl _ _) nof
    refine steps2_cons ?_ ?_
    · intro f w1 hb hd Q hK
      have e17 : f 17 = .pointer (some ⟨G0, 5, none⟩) := hd.1 rfl
      have e16 : f 16 = .bool true := hd.2.1 rfl
      clear hd
      simp only [e17, e16] at hK
      have hK := Lib.hid hK
      have c0 : w1.cell? ⟨G0, 5, none⟩ = some (.int .u64 y1.a0) := (k0.below hb).cell 5
      have c1 : w1.cell? ⟨G0, 6, none⟩ = some (.int .u64 y1.a1) := (k0.below hb).cell 6
      have c2 : w1.cell? ⟨G0, 7, none⟩ = some (.int .u64 y1.a2) := (k0.below hb).cell 7
      have c3 : w1.cell? ⟨G0, 8, none⟩ = some (.int .u64 y1.a3) := (k0.below hb).cell 8
      have c4 : w1.cell? ⟨G0, 9, none⟩ = some (.int .u64 y1.a4) := (k0.below hb).cell 9
      go_wp2
      exact hK.out _ _ rfl (.refl _ _) nof
    refine steps2_cons ?_ ?_
    · intro f w1 hb hd Q hK
      have e16 : f 16 = .bool true := hd.1 rfl
      clear hd
      simp only [e16] at hK
      have hK := Lib.hid hK
      go_wp2
      exact hK.out _ _ rfl (.refl _ _) nof
    refine steps2_cons ?_ ?_
    · intro f w1 hb hd Q hK
      have e19 : f 19 = .pointer (some ⟨G1, 10, none⟩) := hd.1 rfl
      have e16 : f 16 = .bool true := hd.2.1 rfl
      clear hd
      simp only [e19, e16] at hK
      have hK := Lib.hid hK
      have c0 : w1.cell? ⟨G1, 10, none⟩ = some (.int .u64 z2.a0) := (k1.below hb).cell 10
      have c1 : w1.cell? ⟨G1, 11, none⟩ = some (.int .u64 z2.a1) := (k1.below hb).cell 11
      have c2 : w1.cell? ⟨G1, 12, none⟩ = some (.int .u64 z2.a2) := (k1.below hb).cell 12
      have c3 : w1.cell? ⟨G1, 13, none⟩ = some (.int .u64 z2.a3) := (k1.below hb).cell 13
      have c4 : w1.cell? ⟨G1, 14, none⟩ = some (.int .u64 z2.a4) := (k1.below hb).cell 14
      go_wp2
      exact hK.out _ _ rfl (.refl _ _) nof
    refine steps2_cons ?_ ?_
    · intro f w1 hb hd Q hK
      have e18 : f 18 = .agg #[.int .u64 y1.a0, .int .u64 y1.a1, .int .u64 y1.a2, .int .u64 y1.a3, .int .u64 y1.a4] := hd.1 rfl
      have e20 : f 20 = .agg #[.int .u64 z2.a0, .int .u64 z2.a1, .int .u64 z2.a2, .int .u64 z2.a3, .int .u64 z2.a4] := hd.2.1 rfl
      have e16 : f 16 = .bool true := hd.2.2.1 rfl
      clear hd
      simp only [e18, e20, e16] at hK
      have hK := Lib.hid hK
      go_wp2_with fail
      refine (fMul hy1 hz2 _).mono ?_
      rintro e w2 ⟨x, rfl, hx, hb2⟩
      go_wp2
      exact hK.out _ _ ⟨x, rfl, hx⟩ hb2 nof
    refine steps2_cons ?_ ?_
    · intro f w1 hb hd Q hK
      have e16 : f 16 = .bool true := hd.1 rfl
      clear hd
      simp only [e16] at hK
      have hK := Lib.hid hK
      go_wp2
      exact hK.out _ _ rfl (.refl _ _) nof
    refine steps2_cons ?_ ?_
    · intro f w1 hb hd Q hK
      have e22 : f 22 = .pointer (some ⟨G1, 5, none⟩) := hd.1 rfl
      have e16 : f 16 = .bool true := hd.2.1 rfl
      clear hd
      simp only [e22, e16] at hK
      have hK := Lib.hid hK
      have c0 : w1.cell? ⟨G1, 5, none⟩ = some (.int .u64 y2.a0) := (k1.below hb).cell 5
      have c1 : w1.cell? ⟨G1, 6, none⟩ = some (.int .u64 y2.a1) := (k1.below hb).cell 6
      have c2 : w1.cell? ⟨G1, 7, none⟩ = some (.int .u64 y2.a2) := (k1.below hb).cell 7
      have c3 : w1.cell? ⟨G1, 8, none⟩ = some (.int .u64 y2.a3) := (k1.below hb).cell 8
      have c4 : w1.cell? ⟨G1, 9, none⟩ = some (.int .u64 y2.a4) := (k1.below hb).cell 9
      go_wp2
      exact hK.out _ _ rfl (.refl _ _) nof
    refine steps2_cons ?_ ?_
    · intro f w1 hb hd Q hK
      have e16 : f 16 = .bool true := hd.1 rfl
      clear hd
      simp only [e16] at hK
      have hK := Lib.hid hK
      go_wp2
      exact hK.out _ _ rfl (.refl _ _) nof
    refine steps2_cons ?_ ?_
    · intro f w1 hb hd Q hK
      have e24 : f 24 = .pointer (some ⟨G0, 10, none⟩) := hd.1 rfl
      have e16 : f 16 = .bool true := hd.2.1 rfl
      clear hd
      simp only [e24, e16] at hK
      have hK := Lib.hid hK
      have c0 : w1.cell? ⟨G0, 10, none⟩ = some (.int .u64 z1.a0) := (k0.below hb).cell 10
      have c1 : w1.cell? ⟨G0, 11, none⟩ = some (.int .u64 z1.a1) := (k0.below hb).cell 11
      have c2 : w1.cell? ⟨G0, 12, none⟩ = some (.int .u64 z1.a2) := (k0.below hb).cell 12
      have c3 : w1.cell? ⟨G0, 13, none⟩ = some (.int .u64 z1.a3) := (k0.below hb).cell 13
      have c4 : w1.cell? ⟨G0, 14, none⟩ = some (.int .u64 z1.a4) := (k0.below hb).cell 14
      go_wp2
      exact hK.out _ _ rfl (.refl _ _) nof
    refine steps2_cons ?_ ?_
    · intro f w1 hb hd Q hK
      have e23 : f 23 = .agg #[.int .u64 y2.a0, .int .u64 y2.a1, .int .u64 y2.a2, .int .u64 y2.a3, .int .u64 y2.a4] := hd.1 rfl
      have e25 : f 25 = .agg #[.int .u64 z1.a0, .int .u64 z1.a1, .int .u64 z1.a2, .int .u64 z1.a3, .int .u64 z1.a4] := hd.2.1 rfl
      have e16 : f 16 = .bool true := hd.2.2.2.1 rfl
      clear hd
      simp only [e23, e25, e16] at hK
      have hK := Lib.hid hK
      go_wp2_with fail
      refine (fMul hy2 hz1 _).mono ?_
      rintro e w2 ⟨x, rfl, hx, hb2⟩
      go_wp2
      exact hK.out _ _ ⟨x, rfl, hx⟩ hb2 nof
    refine steps2_cons ?_ ?_
    · intro f w1 hb hd Q hK
      obtain ⟨x21, e21, h21⟩ := (hd.1 rfl : ElP (b * c2 % Fe.P) (f 21) w1)
      obtain ⟨x26, e26, h26⟩ := (hd.2.1 rfl : ElP (b2 * c % Fe.P) (f 26) w1)
      have e16 : f 16 = .bool true := hd.2.2.2.1 rfl
      clear hd
      simp only [e21, e26, e16] at hK
      have hK := Lib.hid hK
      go_wp2_with fail
      refine (fSame h21 h26 _).mono ?_
      rintro e w2 ⟨rfl, hb2⟩
      go_wp2
      exact hK.out _ _ rfl hb2 nof
    refine steps2_cons ?_ ?_
    · intro f w1 hb hd Q hK
      have e16 : f 16 = .bool true := hd.1 rfl
      have e27 : f 27 = .bool (decide ((b * c2 % Fe.P) = (b2 * c % Fe.P))) := hd.2.1 rfl
      clear hd
      simp only [e16, e27] at hK
      have hK := Lib.hid hK
      go_wp2
      exact hK.out _ _ rfl (.refl _ _) nof
    refine steps2_cons ?_ ?_
    · intro f w1 hb hd Q hK
      have e28 : f 28 = .bool (decide ((b * c2 % Fe.P) = (b2 * c % Fe.P))) := hd.1 rfl
      clear hd
      simp only [e28] at hK
      have hK := Lib.hid hK
      go_wp2
      exact hK.out _ _ rfl (.refl _ _) nof
    trivial
  intro ff yw hb hf hne
  refine wpList_nil ?_
  have d4 : ff 4 = .bool (decide ((b * c2 % Fe.P) = (b2 * c % Fe.P))) := hf 24 _ _ (by decide) rfl rfl
  clear hf hne
  replace hb0 := hb0.trans (hb.mono hb0.size)
  simp only [d4]
  clear d4
  go_wp2
  go_returns
  exact ⟨by unfold sameP; rw [hE]; simp only [Bool.true_and]; rfl, hb0⟩
def on1L (x1 : Fe.E) (y1 : Fe.E) (z1 : Fe.E) (t1 : Fe.E) (a : Nat) (b : Nat) (c : Nat) (d : Nat) (G0 : Nat) (B0 : Nat) : List (Value → World → Prop) := [
  Eq1 (.pointer (some ⟨G0, 0, none⟩)),
  Eq1 (.agg #[.int .u64 x1.a0, .int .u64 x1.a1, .int .u64 x1.a2, .int .u64 x1.a3, .int .u64 x1.a4]),
  ElP (a * a % Fe.P),
  Eq1 (.pointer (some ⟨G0, 5, none⟩)),
  Eq1 (.agg #[.int .u64 y1.a0, .int .u64 y1.a1, .int .u64 y1.a2, .int .u64 y1.a3, .int .u64 y1.a4]),
  ElP (b * b % Fe.P),
  Eq1 (.pointer (some ⟨G0, 10, none⟩)),
  Eq1 (.agg #[.int .u64 z1.a0, .int .u64 z1.a1, .int .u64 z1.a2, .int .u64 z1.a3, .int .u64 z1.a4]),
  ElP (c * c % Fe.P),
  Eq1 (.pointer (some ⟨G0, 15, none⟩)),
  Eq1 (.agg #[.int .u64 t1.a0, .int .u64 t1.a1, .int .u64 t1.a2, .int .u64 t1.a3, .int .u64 t1.a4]),
  ElP (d * d % Fe.P),
  NewB B0 28 #[.int .u64 0, .int .u64 0, .int .u64 0, .int .u64 0, .int .u64 0],
  NewB B0 28 #[.int .u64 0, .int .u64 0, .int .u64 0, .int .u64 0, .int .u64 0],
  NewB B0 28 #[.int .u64 0, .int .u64 0, .int .u64 0, .int .u64 0, .int .u64 0],
  NewB B0 28 #[.int .u64 0, .int .u64 0, .int .u64 0, .int .u64 0, .int .u64 0]]
theorem on1S (x1 : Fe.E) (y1 : Fe.E) (z1 : Fe.E) (t1 : Fe.E) (a : Nat) (b : Nat) (c : Nat) (d : Nat) (G0 : Nat) (B0 : Nat) : ∀ j x' q q', (on1L x1 y1 z1 t1 a b c d G0 B0).getD j (fun _ _ => True) x' q → Below q.heap.size q q' → (on1L x1 y1 z1 t1 a b c d G0 B0).getD j (fun _ _ => True) x' q' := by
  refine sta_all _ ?_
  simp only [on1L, List.mem_cons, forall_eq_or_imp, List.not_mem_nil, false_implies, implies_true, and_true]
  exact ⟨sta_eq _, sta_eq _, sta_el _, sta_eq _, sta_eq _, sta_el _, sta_eq _, sta_eq _, sta_el _, sta_eq _, sta_eq _, sta_el _, sta_new _ _ _, sta_new _ _ _, sta_new _ _ _, sta_new _ _ _⟩
theorem on1O (x1 : Fe.E) (y1 : Fe.E) (z1 : Fe.E) (t1 : Fe.E) (a : Nat) (b : Nat) (c : Nat) (d : Nat) (G0 : Nat) (B0 : Nat) : ∀ j x' q, (fun j => j == 12 || j == 13 || j == 14 || j == 15) j = true → (on1L x1 y1 z1 t1 a b c d G0 B0).getD j (fun _ _ => True) x' q → ∀ g, x' = .pointer (some ⟨g, 0, none⟩) → g < q.heap.size := by
  intro j x' q hj hv g e
  have hj' : j = 12 ∨ j = 13 ∨ j = 14 ∨ j = 15 := by simpa only [Bool.or_eq_true, beq_iff_eq, or_assoc] using hj
  rcases hj' with rfl | rfl | rfl | rfl
  all_goals exact new_lt hv e
def on2L (a : Nat) (b : Nat) (c : Nat) (d : Nat) (x10 : Fe.E) (x13 : Fe.E) (x16 : Fe.E) (x19 : Fe.E) (PB : Bool) : List (Value → World → Prop) := [
  Eq1 (.agg #[.int .u64 x13.a0, .int .u64 x13.a1, .int .u64 x13.a2, .int .u64 x13.a3, .int .u64 x13.a4]),
  Eq1 (.agg #[.int .u64 x10.a0, .int .u64 x10.a1, .int .u64 x10.a2, .int .u64 x10.a3, .int .u64 x10.a4]),
  ElP (((b * b % Fe.P) + (Fe.P - (a * a % Fe.P))) % Fe.P),
  Eq1 (.agg #[.int .u64 x16.a0, .int .u64 x16.a1, .int .u64 x16.a2, .int .u64 x16.a3, .int .u64 x16.a4]),
  Eq1 (.agg #[.int .u64 929955233495203, .int .u64 466365720129213, .int .u64 1662059464998953, .int .u64 2033849074728123, .int .u64 1442794654840575]),
  Eq1 (.agg #[.int .u64 x19.a0, .int .u64 x19.a1, .int .u64 x19.a2, .int .u64 x19.a3, .int .u64 x19.a4]),
  ElP (Fe.dN * (d * d % Fe.P) % Fe.P),
  ElP (((c * c % Fe.P) + (Fe.dN * (d * d % Fe.P) % Fe.P)) % Fe.P),
  Eq1 (.bool PB),
  Eq1 (.bool PB)]
theorem on2S (a : Nat) (b : Nat) (c : Nat) (d : Nat) (x10 : Fe.E) (x13 : Fe.E) (x16 : Fe.E) (x19 : Fe.E) (PB : Bool) : ∀ j x' q q', (on2L a b c d x10 x13 x16 x19 PB).getD j (fun _ _ => True) x' q → Below q.heap.size q q' → (on2L a b c d x10 x13 x16 x19 PB).getD j (fun _ _ => True) x' q' := by
  refine sta_all _ ?_
  simp only [on2L, List.mem_cons, forall_eq_or_imp, List.not_mem_nil, false_implies, implies_true, and_true]
  exact ⟨sta_eq _, sta_eq _, sta_el _, sta_eq _, sta_eq _, sta_eq _, sta_el _, sta_el _, sta_eq _, sta_eq _⟩
def on3fL (x1 : Fe.E) (y1 : Fe.E) (z1 : Fe.E) (t1 : Fe.E) (a : Nat) (b : Nat) (c : Nat) (d : Nat) (G0 : Nat) : List (Value → World → Prop) := [
  Eq1 (.pointer (some ⟨G0, 10, none⟩)),
  Eq1 (.agg #[.int .u64 z1.a0, .int .u64 z1.a1, .int .u64 z1.a2, .int .u64 z1.a3, .int .u64 z1.a4]),
  Eq1 (.bool false),
  Eq1 (.bool true),
  Eq1 (.bool true),
  Eq1 (.pointer (some ⟨G0, 15, none⟩)),
  Eq1 (.agg #[.int .u64 t1.a0, .int .u64 t1.a1, .int .u64 t1.a2, .int .u64 t1.a3, .int .u64 t1.a4]),
  Eq1 (.pointer (some ⟨G0, 10, none⟩)),
  Eq1 (.agg #[.int .u64 z1.a0, .int .u64 z1.a1, .int .u64 z1.a2, .int .u64 z1.a3, .int .u64 z1.a4]),
  ElP (d * c % Fe.P),
  Eq1 (.pointer (some ⟨G0, 0, none⟩)),
  Eq1 (.agg #[.int .u64 x1.a0, .int .u64 x1.a1, .int .u64 x1.a2, .int .u64 x1.a3, .int .u64 x1.a4]),
  Eq1 (.pointer (some ⟨G0, 5, none⟩)),
  Eq1 (.agg #[.int .u64 y1.a0, .int .u64 y1.a1, .int .u64 y1.a2, .int .u64 y1.a3, .int .u64 y1.a4]),
  ElP (a * b % Fe.P),
  Eq1 (.bool false),
  Eq1 (.bool false),
  Eq1 (.bool false),
  Eq1 (undef),
  Eq1 (.bool false),
  Eq1 (.bool false)]
theorem on3fS (x1 : Fe.E) (y1 : Fe.E) (z1 : Fe.E) (t1 : Fe.E) (a : Nat) (b : Nat) (c : Nat) (d : Nat) (G0 : Nat) : ∀ j x' q q', (on3fL x1 y1 z1 t1 a b c d G0).getD j (fun _ _ => True) x' q → Below q.heap.size q q' → (on3fL x1 y1 z1 t1 a b c d G0).getD j (fun _ _ => True) x' q' := by
  refine sta_all _ ?_
  simp only [on3fL, List.mem_cons, forall_eq_or_imp, List.not_mem_nil, false_implies, implies_true, and_true]
  exact ⟨sta_eq _, sta_eq _, sta_eq _, sta_eq _, sta_eq _, sta_eq _, sta_eq _, sta_eq _, sta_eq _, sta_el _, sta_eq _, sta_eq _, sta_eq _, sta_eq _, sta_el _, sta_eq _, sta_eq _, sta_eq _, sta_eq _, sta_eq _, sta_eq _⟩
def on3tL (x1 : Fe.E) (y1 : Fe.E) (z1 : Fe.E) (t1 : Fe.E) (a : Nat) (b : Nat) (c : Nat) (d : Nat) (G0 : Nat) (PB : Bool) : List (Value → World → Prop) := [
  Eq1 (.pointer (some ⟨G0, 10, none⟩)),
  Eq1 (.agg #[.int .u64 z1.a0, .int .u64 z1.a1, .int .u64 z1.a2, .int .u64 z1.a3, .int .u64 z1.a4]),
  Eq1 (.bool false),
  Eq1 (.bool true),
  Eq1 (.bool true),
  Eq1 (.pointer (some ⟨G0, 15, none⟩)),
  Eq1 (.agg #[.int .u64 t1.a0, .int .u64 t1.a1, .int .u64 t1.a2, .int .u64 t1.a3, .int .u64 t1.a4]),
  Eq1 (.pointer (some ⟨G0, 10, none⟩)),
  Eq1 (.agg #[.int .u64 z1.a0, .int .u64 z1.a1, .int .u64 z1.a2, .int .u64 z1.a3, .int .u64 z1.a4]),
  ElP (d * c % Fe.P),
  Eq1 (.pointer (some ⟨G0, 0, none⟩)),
  Eq1 (.agg #[.int .u64 x1.a0, .int .u64 x1.a1, .int .u64 x1.a2, .int .u64 x1.a3, .int .u64 x1.a4]),
  Eq1 (.pointer (some ⟨G0, 5, none⟩)),
  Eq1 (.agg #[.int .u64 y1.a0, .int .u64 y1.a1, .int .u64 y1.a2, .int .u64 y1.a3, .int .u64 y1.a4]),
  ElP (a * b % Fe.P),
  Eq1 (.bool true),
  Eq1 (.bool true),
  Eq1 (.bool true),
  Eq1 (.bool (PB)),
  Eq1 (.bool (PB)),
  Eq1 (.bool (PB))]
theorem on3tS (x1 : Fe.E) (y1 : Fe.E) (z1 : Fe.E) (t1 : Fe.E) (a : Nat) (b : Nat) (c : Nat) (d : Nat) (G0 : Nat) (PB : Bool) : ∀ j x' q q', (on3tL x1 y1 z1 t1 a b c d G0 PB).getD j (fun _ _ => True) x' q → Below q.heap.size q q' → (on3tL x1 y1 z1 t1 a b c d G0 PB).getD j (fun _ _ => True) x' q' := by
  refine sta_all _ ?_
  simp only [on3tL, List.mem_cons, forall_eq_or_imp, List.not_mem_nil, false_implies, implies_true, and_true]
  exact ⟨sta_eq _, sta_eq _, sta_eq _, sta_eq _, sta_eq _, sta_eq _, sta_eq _, sta_eq _, sta_eq _, sta_el _, sta_eq _, sta_eq _, sta_eq _, sta_eq _, sta_el _, sta_eq _, sta_eq _, sta_eq _, sta_eq _, sta_eq _, sta_eq _⟩
def on3zL (z1 : Fe.E) (G0 : Nat) : List (Value → World → Prop) := [
  Eq1 (.pointer (some ⟨G0, 10, none⟩)),
  Eq1 (.agg #[.int .u64 z1.a0, .int .u64 z1.a1, .int .u64 z1.a2, .int .u64 z1.a3, .int .u64 z1.a4]),
  Eq1 (.bool true),
  Eq1 (.bool false),
  Eq1 (.bool false),
  Eq1 (undef),
  Eq1 (undef),
  Eq1 (undef),
  Eq1 (undef),
  Eq1 (undef),
  Eq1 (undef),
  Eq1 (undef),
  Eq1 (undef),
  Eq1 (undef),
  Eq1 (undef),
  Eq1 (undef),
  Eq1 (.bool false),
  Eq1 (.bool false),
  Eq1 (undef),
  Eq1 (.bool false),
  Eq1 (.bool false)]
theorem on3zS (z1 : Fe.E) (G0 : Nat) : ∀ j x' q q', (on3zL z1 G0).getD j (fun _ _ => True) x' q → Below q.heap.size q q' → (on3zL z1 G0).getD j (fun _ _ => True) x' q' := by
  refine sta_all _ ?_
  simp only [on3zL, List.mem_cons, forall_eq_or_imp, List.not_mem_nil, false_implies, implies_true, and_true]
  exact ⟨sta_eq _, sta_eq _, sta_eq _, sta_eq _, sta_eq _, sta_eq _, sta_eq _, sta_eq _, sta_eq _, sta_eq _, sta_eq _, sta_eq _, sta_eq _, sta_eq _, sta_eq _, sta_eq _, sta_eq _, sta_eq _, sta_eq _, sta_eq _, sta_eq _⟩
/-- On: as the program asks -/
def onP (x y z t : Nat) : Bool := !decide (z = 0) && (decide (t * z % Fe.P = x * y % Fe.P) && decide ((y * y % Fe.P + (Fe.P - x * x % Fe.P)) % Fe.P = (z * z % Fe.P + Fe.dN * (t * t % Fe.P) % Fe.P) % Fe.P))
set_option maxRecDepth 20000 in
set_option maxHeartbeats 8000000 in
theorem on_c {x1 y1 z1 t1 : Fe.E} {a b c d : Nat} (hx1 : El x1 a) (hy1 : El y1 b) (hz1 : El z1 c) (ht1 : El t1 d) (w : World) (hCv : CvP w) : Calls Tryd.prog 31 #[.agg #[.int .u64 x1.a0, .int .u64 x1.a1, .int .u64 x1.a2, .int .u64 x1.a3, .int .u64 x1.a4, .int .u64 y1.a0, .int .u64 y1.a1, .int .u64 y1.a2, .int .u64 y1.a3, .int .u64 y1.a4, .int .u64 z1.a0, .int .u64 z1.a1, .int .u64 z1.a2, .int .u64 z1.a3, .int .u64 z1.a4, .int .u64 t1.a0, .int .u64 t1.a1, .int .u64 t1.a2, .int .u64 t1.a3, .int .u64 t1.a4]] w (PostV (.bool (onP a b c d)) w) := by
  obtain ⟨PB, hPB⟩ : ∃ PB, decide ((((b * b % Fe.P) + (Fe.P - (a * a % Fe.P))) % Fe.P) = (((c * c % Fe.P) + (Fe.dN * (d * d % Fe.P) % Fe.P)) % Fe.P)) = PB := ⟨_, rfl⟩
  replace hPB := Lib.hid hPB
  go_enter Tryd.func31, Tryd.ntmps31
  go_wp2_with fail
  refine at_world (fun W0 hW => ?_)
  have k0 : Blk W0 (w.heap.size) 30 #[.int .u64 x1.a0, .int .u64 x1.a1, .int .u64 x1.a2, .int .u64 x1.a3, .int .u64 x1.a4, .int .u64 y1.a0, .int .u64 y1.a1, .int .u64 y1.a2, .int .u64 y1.a3, .int .u64 y1.a4, .int .u64 z1.a0, .int .u64 z1.a1, .int .u64 z1.a2, .int .u64 z1.a3, .int .u64 z1.a4, .int .u64 t1.a0, .int .u64 t1.a1, .int .u64 t1.a2, .int .u64 t1.a3, .int .u64 t1.a4] := by rw [hW]; exact Blk.new _ _ _
  have hb0 : Below w.heap.size w W0 := by rw [hW]; go_grown
  clear hW
  obtain ⟨G0, hG0⟩ : ∃ G0, G0 = w.heap.size := ⟨_, rfl⟩
  rw [← hG0] at k0 ⊢
  have lo_G0 : w.heap.size ≤ G0 := by omega
  clear hG0
  have LC := Lib.hid hCv.lt
  replace hCv := hCv.below hb0 hCv.lt
  have LW := Lib.hid hb0.size
  refine wp_region_grow2 16 (fun k => (Nat.ble 3 k && Nat.ble k 6) || (Nat.ble 8 k && Nat.ble k 19)) _ [] (fun j x' q => (on1L x1 y1 z1 t1 a b c d G0 W0.heap.size).getD j (fun _ _ => True) x' q) (fun j => j == 12 || j == 13 || j == 14 || j == 15) (fun f => #[.agg #[.int .u64 x1.a0, .int .u64 x1.a1, .int .u64 x1.a2, .int .u64 x1.a3, .int .u64 x1.a4, .int .u64 y1.a0, .int .u64 y1.a1, .int .u64 y1.a2, .int .u64 y1.a3, .int .u64 y1.a4, .int .u64 z1.a0, .int .u64 z1.a1, .int .u64 z1.a2, .int .u64 z1.a3, .int .u64 z1.a4, .int .u64 t1.a0, .int .u64 t1.a1, .int .u64 t1.a2, .int .u64 t1.a3, .int .u64 t1.a4], .pointer (some ⟨G0, 0, none⟩), .bool false, f 3, f 4, f 5, f 6, undef, f 8, f 9, f 10, f 11, f 12, f 13, f 14, f 15, f 16, f 17, f 18, f 19, undef, undef, undef, undef, undef, undef, undef, undef, undef, undef, undef, undef, undef, undef, undef, undef, undef, undef, undef, undef, undef, undef, undef, undef, undef, undef, undef, undef, undef]) (fun f => rfl) (by kernel_rfl) (by kernel_rfl) (by kernel_rfl) (by kernel_rfl) (by kernel_rfl) (on1S _ _ _ _ _ _ _ _ _ _) (on1O _ _ _ _ _ _ _ _ _ _) ?_ ?_
  · refine steps2_cons ?_ ?_
    · intro f w1 hb hd Q hK
      clear hd
      have hK := Lib.hid hK
      go_wp2
      exact hK.out _ _ rfl (.refl _ _) nof
    refine steps2_cons ?_ ?_
    · intro f w1 hb hd Q hK
      have e8 : f 8 = .pointer (some ⟨G0, 0, none⟩) := hd.1 rfl
      clear hd
      simp only [e8] at hK
      have hK := Lib.hid hK
      have c0 : w1.cell? ⟨G0, 0, none⟩ = some (.int .u64 x1.a0) := (k0.below hb).cell 0
      have c1 : w1.cell? ⟨G0, 1, none⟩ = some (.int .u64 x1.a1) := (k0.below hb).cell 1
      have c2 : w1.cell? ⟨G0, 2, none⟩ = some (.int .u64 x1.a2) := (k0.below hb).cell 2
      have c3 : w1.cell? ⟨G0, 3, none⟩ = some (.int .u64 x1.a3) := (k0.below hb).cell 3
      have c4 : w1.cell? ⟨G0, 4, none⟩ = some (.int .u64 x1.a4) := (k0.below hb).cell 4
      go_wp2
      exact hK.out _ _ rfl (.refl _ _) nof
    refine steps2_cons ?_ ?_
    · intro f w1 hb hd Q hK
      have e9 : f 9 = .agg #[.int .u64 x1.a0, .int .u64 x1.a1, .int .u64 x1.a2, .int .u64 x1.a3, .int .u64 x1.a4] := hd.1 rfl
      clear hd
      simp only [e9] at hK
      have hK := Lib.hid hK
      go_wp2_with fail
      refine (fSquare hx1 _).mono ?_
      rintro e w2 ⟨x, rfl, hx, hb2⟩
      go_wp2
      exact hK.out _ _ ⟨x, rfl, hx⟩ hb2 nof
    refine steps2_cons ?_ ?_
    · intro f w1 hb hd Q hK
      clear hd
      have hK := Lib.hid hK
      go_wp2
      exact hK.out _ _ rfl (.refl _ _) nof
    refine steps2_cons ?_ ?_
    · intro f w1 hb hd Q hK
      have e11 : f 11 = .pointer (some ⟨G0, 5, none⟩) := hd.1 rfl
      clear hd
      simp only [e11] at hK
      have hK := Lib.hid hK
      have c0 : w1.cell? ⟨G0, 5, none⟩ = some (.int .u64 y1.a0) := (k0.below hb).cell 5
      have c1 : w1.cell? ⟨G0, 6, none⟩ = some (.int .u64 y1.a1) := (k0.below hb).cell 6
      have c2 : w1.cell? ⟨G0, 7, none⟩ = some (.int .u64 y1.a2) := (k0.below hb).cell 7
      have c3 : w1.cell? ⟨G0, 8, none⟩ = some (.int .u64 y1.a3) := (k0.below hb).cell 8
      have c4 : w1.cell? ⟨G0, 9, none⟩ = some (.int .u64 y1.a4) := (k0.below hb).cell 9
      go_wp2
      exact hK.out _ _ rfl (.refl _ _) nof
    refine steps2_cons ?_ ?_
    · intro f w1 hb hd Q hK
      have e12 : f 12 = .agg #[.int .u64 y1.a0, .int .u64 y1.a1, .int .u64 y1.a2, .int .u64 y1.a3, .int .u64 y1.a4] := hd.1 rfl
      clear hd
      simp only [e12] at hK
      have hK := Lib.hid hK
      go_wp2_with fail
      refine (fSquare hy1 _).mono ?_
      rintro e w2 ⟨x, rfl, hx, hb2⟩
      go_wp2
      exact hK.out _ _ ⟨x, rfl, hx⟩ hb2 nof
    refine steps2_cons ?_ ?_
    · intro f w1 hb hd Q hK
      clear hd
      have hK := Lib.hid hK
      go_wp2
      exact hK.out _ _ rfl (.refl _ _) nof
    refine steps2_cons ?_ ?_
    · intro f w1 hb hd Q hK
      have e14 : f 14 = .pointer (some ⟨G0, 10, none⟩) := hd.1 rfl
      clear hd
      simp only [e14] at hK
      have hK := Lib.hid hK
      have c0 : w1.cell? ⟨G0, 10, none⟩ = some (.int .u64 z1.a0) := (k0.below hb).cell 10
      have c1 : w1.cell? ⟨G0, 11, none⟩ = some (.int .u64 z1.a1) := (k0.below hb).cell 11
      have c2 : w1.cell? ⟨G0, 12, none⟩ = some (.int .u64 z1.a2) := (k0.below hb).cell 12
      have c3 : w1.cell? ⟨G0, 13, none⟩ = some (.int .u64 z1.a3) := (k0.below hb).cell 13
      have c4 : w1.cell? ⟨G0, 14, none⟩ = some (.int .u64 z1.a4) := (k0.below hb).cell 14
      go_wp2
      exact hK.out _ _ rfl (.refl _ _) nof
    refine steps2_cons ?_ ?_
    · intro f w1 hb hd Q hK
      have e15 : f 15 = .agg #[.int .u64 z1.a0, .int .u64 z1.a1, .int .u64 z1.a2, .int .u64 z1.a3, .int .u64 z1.a4] := hd.1 rfl
      clear hd
      simp only [e15] at hK
      have hK := Lib.hid hK
      go_wp2_with fail
      refine (fSquare hz1 _).mono ?_
      rintro e w2 ⟨x, rfl, hx, hb2⟩
      go_wp2
      exact hK.out _ _ ⟨x, rfl, hx⟩ hb2 nof
    refine steps2_cons ?_ ?_
    · intro f w1 hb hd Q hK
      clear hd
      have hK := Lib.hid hK
      go_wp2
      exact hK.out _ _ rfl (.refl _ _) nof
    refine steps2_cons ?_ ?_
    · intro f w1 hb hd Q hK
      have e17 : f 17 = .pointer (some ⟨G0, 15, none⟩) := hd.1 rfl
      clear hd
      simp only [e17] at hK
      have hK := Lib.hid hK
      have c0 : w1.cell? ⟨G0, 15, none⟩ = some (.int .u64 t1.a0) := (k0.below hb).cell 15
      have c1 : w1.cell? ⟨G0, 16, none⟩ = some (.int .u64 t1.a1) := (k0.below hb).cell 16
      have c2 : w1.cell? ⟨G0, 17, none⟩ = some (.int .u64 t1.a2) := (k0.below hb).cell 17
      have c3 : w1.cell? ⟨G0, 18, none⟩ = some (.int .u64 t1.a3) := (k0.below hb).cell 18
      have c4 : w1.cell? ⟨G0, 19, none⟩ = some (.int .u64 t1.a4) := (k0.below hb).cell 19
      go_wp2
      exact hK.out _ _ rfl (.refl _ _) nof
    refine steps2_cons ?_ ?_
    · intro f w1 hb hd Q hK
      have e18 : f 18 = .agg #[.int .u64 t1.a0, .int .u64 t1.a1, .int .u64 t1.a2, .int .u64 t1.a3, .int .u64 t1.a4] := hd.1 rfl
      clear hd
      simp only [e18] at hK
      have hK := Lib.hid hK
      go_wp2_with fail
      refine (fSquare ht1 _).mono ?_
      rintro e w2 ⟨x, rfl, hx, hb2⟩
      go_wp2
      exact hK.out _ _ ⟨x, rfl, hx⟩ hb2 nof
    refine steps2_cons ?_ ?_
    · intro f w1 hb hd Q hK
      clear hd
      have hK := Lib.hid hK
      have hsz := hb.size
      go_wp2
      exact hK.out _ _ ⟨_, rfl, hsz, Blk.new _ _ _⟩ ((Below.refl _ _).alloc (Nat.le_refl _) _) (fun _ => ⟨_, rfl, Nat.le_refl _⟩)
    refine steps2_cons ?_ ?_
    · intro f w1 hb hd Q hK
      clear hd
      have hK := Lib.hid hK
      have hsz := hb.size
      go_wp2
      exact hK.out _ _ ⟨_, rfl, hsz, Blk.new _ _ _⟩ ((Below.refl _ _).alloc (Nat.le_refl _) _) (fun _ => ⟨_, rfl, Nat.le_refl _⟩)
    refine steps2_cons ?_ ?_
    · intro f w1 hb hd Q hK
      clear hd
      have hK := Lib.hid hK
      have hsz := hb.size
      go_wp2
      exact hK.out _ _ ⟨_, rfl, hsz, Blk.new _ _ _⟩ ((Below.refl _ _).alloc (Nat.le_refl _) _) (fun _ => ⟨_, rfl, Nat.le_refl _⟩)
    refine steps2_cons ?_ ?_
    · intro f w1 hb hd Q hK
      clear hd
      have hK := Lib.hid hK
      have hsz := hb.size
      go_wp2
      exact hK.out _ _ ⟨_, rfl, hsz, Blk.new _ _ _⟩ ((Below.refl _ _).alloc (Nat.le_refl _) _) (fun _ => ⟨_, rfl, Nat.le_refl _⟩)
    trivial
  intro ff yw hb hf hne
  obtain ⟨g3, d3, lo3, bk3⟩ : NewB W0.heap.size 28 #[.int .u64 0, .int .u64 0, .int .u64 0, .int .u64 0, .int .u64 0] (ff 3) yw := hf 12 _ _ (by decide) rfl rfl
  obtain ⟨g4, d4, lo4, bk4⟩ : NewB W0.heap.size 28 #[.int .u64 0, .int .u64 0, .int .u64 0, .int .u64 0, .int .u64 0] (ff 4) yw := hf 13 _ _ (by decide) rfl rfl
  obtain ⟨g5, d5, lo5, bk5⟩ : NewB W0.heap.size 28 #[.int .u64 0, .int .u64 0, .int .u64 0, .int .u64 0, .int .u64 0] (ff 5) yw := hf 14 _ _ (by decide) rfl rfl
  obtain ⟨g6, d6, lo6, bk6⟩ : NewB W0.heap.size 28 #[.int .u64 0, .int .u64 0, .int .u64 0, .int .u64 0, .int .u64 0] (ff 6) yw := hf 15 _ _ (by decide) rfl rfl
  obtain ⟨x10, d10, h10⟩ : ElP (a * a % Fe.P) (ff 10) yw := hf 2 _ _ (by decide) rfl rfl
  obtain ⟨x13, d13, h13⟩ : ElP (b * b % Fe.P) (ff 13) yw := hf 5 _ _ (by decide) rfl rfl
  obtain ⟨x16, d16, h16⟩ : ElP (c * c % Fe.P) (ff 16) yw := hf 8 _ _ (by decide) rfl rfl
  obtain ⟨x19, d19, h19⟩ : ElP (d * d % Fe.P) (ff 19) yw := hf 11 _ _ (by decide) rfl rfl
  have ne34 : g3 ≠ g4 := by
    have := hne 12 13 _ _ _ _ (by decide) (by decide) (by decide) rfl rfl rfl rfl rfl rfl
    rw [d3, d4] at this
    exact fun h => this (by rw [h])
  have ne35 : g3 ≠ g5 := by
    have := hne 12 14 _ _ _ _ (by decide) (by decide) (by decide) rfl rfl rfl rfl rfl rfl
    rw [d3, d5] at this
    exact fun h => this (by rw [h])
  have ne36 : g3 ≠ g6 := by
    have := hne 12 15 _ _ _ _ (by decide) (by decide) (by decide) rfl rfl rfl rfl rfl rfl
    rw [d3, d6] at this
    exact fun h => this (by rw [h])
  have ne45 : g4 ≠ g5 := by
    have := hne 13 14 _ _ _ _ (by decide) (by decide) (by decide) rfl rfl rfl rfl rfl rfl
    rw [d4, d5] at this
    exact fun h => this (by rw [h])
  have ne46 : g4 ≠ g6 := by
    have := hne 13 15 _ _ _ _ (by decide) (by decide) (by decide) rfl rfl rfl rfl rfl rfl
    rw [d4, d6] at this
    exact fun h => this (by rw [h])
  have ne56 : g5 ≠ g6 := by
    have := hne 14 15 _ _ _ _ (by decide) (by decide) (by decide) rfl rfl rfl rfl rfl rfl
    rw [d5, d6] at this
    exact fun h => this (by rw [h])
  clear hf hne
  simp only [d3, d4, d5, d6, d10, d13, d16, d19]
  clear d3 d4 d5 d6 d10 d13 d16 d19
  have lo0 := k0.lt
  replace k0 := k0.below hb
  replace hb0 := hb0.trans (hb.mono hb0.size)
  replace hCv := hCv.below hb hCv.lt
  refine stEl rfl rfl rfl rfl bk3 rfl ?_
  intro w2 nk hgr hsz
  have k3 := nk
  clear nk
  replace k0 := k0.grown hgr (fun h => by injection h with h; omega)
  replace hCv := hCv.grown hgr (by have := LC.out; have := LW.out; omega)
  replace bk4 := bk4.grown hgr (fun h => ne34 (by injection h with h; exact h.symm))
  replace bk5 := bk5.grown hgr (fun h => ne35 (by injection h with h; exact h.symm))
  replace bk6 := bk6.grown hgr (fun h => ne36 (by injection h with h; exact h.symm))
  replace hb0 := hb0.grown hgr hb0.size (fun k hk => by injection hk with hk; have := LW.out; omega)
  clear hgr hsz bk3
  refine stEl rfl rfl rfl rfl bk4 rfl ?_
  intro w3 nk hgr hsz
  have k4 := nk
  clear nk
  replace k0 := k0.grown hgr (fun h => by injection h with h; omega)
  replace hCv := hCv.grown hgr (by have := LC.out; have := LW.out; omega)
  replace k3 := k3.grown hgr (fun h => ne34 (by injection h with h))
  replace bk5 := bk5.grown hgr (fun h => ne45 (by injection h with h; exact h.symm))
  replace bk6 := bk6.grown hgr (fun h => ne46 (by injection h with h; exact h.symm))
  replace hb0 := hb0.grown hgr hb0.size (fun k hk => by injection hk with hk; have := LW.out; omega)
  clear hgr hsz bk4
  refine stEl rfl rfl rfl rfl bk5 rfl ?_
  intro w4 nk hgr hsz
  have k5 := nk
  clear nk
  replace k0 := k0.grown hgr (fun h => by injection h with h; omega)
  replace hCv := hCv.grown hgr (by have := LC.out; have := LW.out; omega)
  replace k3 := k3.grown hgr (fun h => ne35 (by injection h with h))
  replace k4 := k4.grown hgr (fun h => ne45 (by injection h with h))
  replace bk6 := bk6.grown hgr (fun h => ne56 (by injection h with h; exact h.symm))
  replace hb0 := hb0.grown hgr hb0.size (fun k hk => by injection hk with hk; have := LW.out; omega)
  clear hgr hsz bk5
  refine stEl rfl rfl rfl rfl bk6 rfl ?_
  intro w5 nk hgr hsz
  have k6 := nk
  clear nk
  replace k0 := k0.grown hgr (fun h => by injection h with h; omega)
  replace hCv := hCv.grown hgr (by have := LC.out; have := LW.out; omega)
  replace k3 := k3.grown hgr (fun h => ne36 (by injection h with h))
  replace k4 := k4.grown hgr (fun h => ne46 (by injection h with h))
  replace k5 := k5.grown hgr (fun h => ne56 (by injection h with h))
  replace hb0 := hb0.grown hgr hb0.size (fun k hk => by injection hk with hk; have := LW.out; omega)
  clear hgr hsz bk6
  refine wpList_nil ?_
  clear hb lo0 lo3 lo4 lo5 lo6 ne34 ne35 ne36 ne45 ne46 ne56
  go_wp2
  refine wp_region_grow2 10 (fun k => Nat.beq k 7 || (Nat.ble 20 k && Nat.ble k 28)) _ [] (fun j x' q => (on2L a b c d x10 x13 x16 x19 PB).getD j (fun _ _ => True) x' q) (fun _ => false) (fun f => #[.agg #[.int .u64 x1.a0, .int .u64 x1.a1, .int .u64 x1.a2, .int .u64 x1.a3, .int .u64 x1.a4, .int .u64 y1.a0, .int .u64 y1.a1, .int .u64 y1.a2, .int .u64 y1.a3, .int .u64 y1.a4, .int .u64 z1.a0, .int .u64 z1.a1, .int .u64 z1.a2, .int .u64 z1.a3, .int .u64 z1.a4, .int .u64 t1.a0, .int .u64 t1.a1, .int .u64 t1.a2, .int .u64 t1.a3, .int .u64 t1.a4], .pointer (some ⟨G0, 0, none⟩), .bool false, .pointer (some ⟨g3, 0, none⟩), .pointer (some ⟨g4, 0, none⟩), .pointer (some ⟨g5, 0, none⟩), .pointer (some ⟨g6, 0, none⟩), f 7, ff 8, ff 9, .agg #[.int .u64 x10.a0, .int .u64 x10.a1, .int .u64 x10.a2, .int .u64 x10.a3, .int .u64 x10.a4], ff 11, ff 12, .agg #[.int .u64 x13.a0, .int .u64 x13.a1, .int .u64 x13.a2, .int .u64 x13.a3, .int .u64 x13.a4], ff 14, ff 15, .agg #[.int .u64 x16.a0, .int .u64 x16.a1, .int .u64 x16.a2, .int .u64 x16.a3, .int .u64 x16.a4], ff 17, ff 18, .agg #[.int .u64 x19.a0, .int .u64 x19.a1, .int .u64 x19.a2, .int .u64 x19.a3, .int .u64 x19.a4], f 20, f 21, f 22, f 23, f 24, f 25, f 26, f 27, f 28, undef, undef, undef, undef, undef, undef, undef, undef, undef, undef, undef, undef, undef, undef, undef, undef, undef, undef, undef, undef]) (fun f => rfl) (by kernel_rfl) (by kernel_rfl) (by kernel_rfl) (by kernel_rfl) (by kernel_rfl) (on2S _ _ _ _ _ _ _ _ _) (fun _ _ _ h => by cases h) ?_ ?_
  · refine steps2_cons ?_ ?_
    · intro f w1 hb hd Q hK
      clear hd
      have hK := Lib.hid hK
      have c0 : w1.cell? ⟨g4, 0, none⟩ = some (.int .u64 x13.a0) := (k4.below hb).cell 0
      have c1 : w1.cell? ⟨g4, 1, none⟩ = some (.int .u64 x13.a1) := (k4.below hb).cell 1
      have c2 : w1.cell? ⟨g4, 2, none⟩ = some (.int .u64 x13.a2) := (k4.below hb).cell 2
      have c3 : w1.cell? ⟨g4, 3, none⟩ = some (.int .u64 x13.a3) := (k4.below hb).cell 3
      have c4 : w1.cell? ⟨g4, 4, none⟩ = some (.int .u64 x13.a4) := (k4.below hb).cell 4
      go_wp2
      exact hK.out _ _ rfl (.refl _ _) nof
    refine steps2_cons ?_ ?_
    · intro f w1 hb hd Q hK
      clear hd
      have hK := Lib.hid hK
      have c0 : w1.cell? ⟨g3, 0, none⟩ = some (.int .u64 x10.a0) := (k3.below hb).cell 0
      have c1 : w1.cell? ⟨g3, 1, none⟩ = some (.int .u64 x10.a1) := (k3.below hb).cell 1
      have c2 : w1.cell? ⟨g3, 2, none⟩ = some (.int .u64 x10.a2) := (k3.below hb).cell 2
      have c3 : w1.cell? ⟨g3, 3, none⟩ = some (.int .u64 x10.a3) := (k3.below hb).cell 3
      have c4 : w1.cell? ⟨g3, 4, none⟩ = some (.int .u64 x10.a4) := (k3.below hb).cell 4
      go_wp2
      exact hK.out _ _ rfl (.refl _ _) nof
    refine steps2_cons ?_ ?_
    · intro f w1 hb hd Q hK
      have e20 : f 20 = .agg #[.int .u64 x13.a0, .int .u64 x13.a1, .int .u64 x13.a2, .int .u64 x13.a3, .int .u64 x13.a4] := hd.1 rfl
      have e21 : f 21 = .agg #[.int .u64 x10.a0, .int .u64 x10.a1, .int .u64 x10.a2, .int .u64 x10.a3, .int .u64 x10.a4] := hd.2.1 rfl
      clear hd
      simp only [e20, e21] at hK
      have hK := Lib.hid hK
      go_wp2_with fail
      refine (fSub h13 h10 _).mono ?_
      rintro e w2 ⟨x, rfl, hx, hb2⟩
      go_wp2
      exact hK.out _ _ ⟨x, rfl, hx⟩ hb2 nof
    refine steps2_cons ?_ ?_
    · intro f w1 hb hd Q hK
      clear hd
      have hK := Lib.hid hK
      have c0 : w1.cell? ⟨g5, 0, none⟩ = some (.int .u64 x16.a0) := (k5.below hb).cell 0
      have c1 : w1.cell? ⟨g5, 1, none⟩ = some (.int .u64 x16.a1) := (k5.below hb).cell 1
      have c2 : w1.cell? ⟨g5, 2, none⟩ = some (.int .u64 x16.a2) := (k5.below hb).cell 2
      have c3 : w1.cell? ⟨g5, 3, none⟩ = some (.int .u64 x16.a3) := (k5.below hb).cell 3
      have c4 : w1.cell? ⟨g5, 4, none⟩ = some (.int .u64 x16.a4) := (k5.below hb).cell 4
      go_wp2
      exact hK.out _ _ rfl (.refl _ _) nof
    refine steps2_cons ?_ ?_
    · intro f w1 hb hd Q hK
      clear hd
      have hK := Lib.hid hK
      obtain ⟨c0, c1, c2, c3, c4⟩ := (hCv.below hb hCv.lt).at0
      go_wp2
      exact hK.out _ _ rfl (.refl _ _) nof
    refine steps2_cons ?_ ?_
    · intro f w1 hb hd Q hK
      clear hd
      have hK := Lib.hid hK
      have c0 : w1.cell? ⟨g6, 0, none⟩ = some (.int .u64 x19.a0) := (k6.below hb).cell 0
      have c1 : w1.cell? ⟨g6, 1, none⟩ = some (.int .u64 x19.a1) := (k6.below hb).cell 1
      have c2 : w1.cell? ⟨g6, 2, none⟩ = some (.int .u64 x19.a2) := (k6.below hb).cell 2
      have c3 : w1.cell? ⟨g6, 3, none⟩ = some (.int .u64 x19.a3) := (k6.below hb).cell 3
      have c4 : w1.cell? ⟨g6, 4, none⟩ = some (.int .u64 x19.a4) := (k6.below hb).cell 4
      go_wp2
      exact hK.out _ _ rfl (.refl _ _) nof
    refine steps2_cons ?_ ?_
    · intro f w1 hb hd Q hK
      have e24 : f 24 = .agg #[.int .u64 929955233495203, .int .u64 466365720129213, .int .u64 1662059464998953, .int .u64 2033849074728123, .int .u64 1442794654840575] := hd.1 rfl
      have e25 : f 25 = .agg #[.int .u64 x19.a0, .int .u64 x19.a1, .int .u64 x19.a2, .int .u64 x19.a3, .int .u64 x19.a4] := hd.2.1 rfl
      clear hd
      simp only [e24, e25] at hK
      have hK := Lib.hid hK
      go_wp2_with fail
      refine (fMul el_c h19 _).mono ?_
      rintro e w2 ⟨x, rfl, hx, hb2⟩
      go_wp2
      exact hK.out _ _ ⟨x, rfl, hx⟩ hb2 nof
    refine steps2_cons ?_ ?_
    · intro f w1 hb hd Q hK
      have e23 : f 23 = .agg #[.int .u64 x16.a0, .int .u64 x16.a1, .int .u64 x16.a2, .int .u64 x16.a3, .int .u64 x16.a4] := hd.1 rfl
      obtain ⟨x26, e26, h26⟩ := (hd.2.1 rfl : ElP (Fe.dN * (d * d % Fe.P) % Fe.P) (f 26) w1)
      clear hd
      simp only [e23, e26] at hK
      have hK := Lib.hid hK
      go_wp2_with fail
      refine (fAdd h16 h26 _).mono ?_
      rintro e w2 ⟨x, rfl, hx, hb2⟩
      go_wp2
      exact hK.out _ _ ⟨x, rfl, hx⟩ hb2 nof
    refine steps2_cons ?_ ?_
    · intro f w1 hb hd Q hK
      obtain ⟨x22, e22, h22⟩ := (hd.1 rfl : ElP (((b * b % Fe.P) + (Fe.P - (a * a % Fe.P))) % Fe.P) (f 22) w1)
      obtain ⟨x27, e27, h27⟩ := (hd.2.1 rfl : ElP (((c * c % Fe.P) + (Fe.dN * (d * d % Fe.P) % Fe.P)) % Fe.P) (f 27) w1)
      clear hd
      simp only [e22, e27] at hK
      have hK := Lib.hid hK
      go_wp2_with fail
      refine (fSameV h22 h27 hPB.out _).mono ?_
      rintro e w2 ⟨rfl, hb2⟩
      go_wp2
      exact hK.out _ _ rfl hb2 nof
    refine steps2_cons ?_ ?_
    · intro f w1 hb hd Q hK
      have e28 : f 28 = .bool PB := hd.1 rfl
      clear hd
      simp only [e28] at hK
      have hK := Lib.hid hK
      go_wp2
      exact hK.out _ _ rfl (.refl _ _) nof
    trivial
  intro fg yw2 hb hf hne
  refine wpList_nil ?_
  have d7 : fg 7 = .bool PB := hf 9 _ _ (by decide) rfl rfl
  clear hf hne
  simp only [d7]
  clear d7 k3 k4 k5 k6
  replace k0 := k0.below hb
  replace hb0 := hb0.trans (hb.mono hb0.size)
  clear hb
  go_wp2
  cases hZ : decide (c = 0)
  · cases hS : decide (d * c % Fe.P = a * b % Fe.P)
    · refine wp_region_grow2 21 (fun k => Nat.beq k 2 || (Nat.ble 29 k && Nat.ble k 48)) _ [] (fun j x' q => (on3fL x1 y1 z1 t1 a b c d G0).getD j (fun _ _ => True) x' q) (fun _ => false) (fun f => #[.agg #[.int .u64 x1.a0, .int .u64 x1.a1, .int .u64 x1.a2, .int .u64 x1.a3, .int .u64 x1.a4, .int .u64 y1.a0, .int .u64 y1.a1, .int .u64 y1.a2, .int .u64 y1.a3, .int .u64 y1.a4, .int .u64 z1.a0, .int .u64 z1.a1, .int .u64 z1.a2, .int .u64 z1.a3, .int .u64 z1.a4, .int .u64 t1.a0, .int .u64 t1.a1, .int .u64 t1.a2, .int .u64 t1.a3, .int .u64 t1.a4], .pointer (some ⟨G0, 0, none⟩), f 2, .pointer (some ⟨g3, 0, none⟩), .pointer (some ⟨g4, 0, none⟩), .pointer (some ⟨g5, 0, none⟩), .pointer (some ⟨g6, 0, none⟩), .bool (PB), ff 8, ff 9, .agg #[.int .u64 x10.a0, .int .u64 x10.a1, .int .u64 x10.a2, .int .u64 x10.a3, .int .u64 x10.a4], ff 11, ff 12, .agg #[.int .u64 x13.a0, .int .u64 x13.a1, .int .u64 x13.a2, .int .u64 x13.a3, .int .u64 x13.a4], ff 14, ff 15, .agg #[.int .u64 x16.a0, .int .u64 x16.a1, .int .u64 x16.a2, .int .u64 x16.a3, .int .u64 x16.a4], ff 17, ff 18, .agg #[.int .u64 x19.a0, .int .u64 x19.a1, .int .u64 x19.a2, .int .u64 x19.a3, .int .u64 x19.a4], fg 20, fg 21, fg 22, fg 23, fg 24, fg 25, fg 26, fg 27, fg 28, f 29, f 30, f 31, f 32, f 33, f 34, f 35, f 36, f 37, f 38, f 39, f 40, f 41, f 42, f 43, f 44, f 45, f 46, f 47, f 48]) (fun f => rfl) (by kernel_rfl) (by kernel_rfl) (by kernel_rfl) (by kernel_rfl) (by kernel_rfl) (on3fS _ _ _ _ _ _ _ _ _) (fun _ _ _ h => by cases h) ?_ ?_
      · refine steps2_cons ?_ ?_
        · intro f w1 hb hd Q hK
          clear hd
          have hK := Lib.hid hK
          go_wp2
          exact hK.out _ _ rfl (.refl _ _) nof
        refine steps2_cons ?_ ?_
        · intro f w1 hb hd Q hK
          have e29 : f 29 = .pointer (some ⟨G0, 10, none⟩) := hd.1 rfl
          clear hd
          simp only [e29] at hK
          have hK := Lib.hid hK
          have c0 : w1.cell? ⟨G0, 10, none⟩ = some (.int .u64 z1.a0) := (k0.below hb).cell 10
          have c1 : w1.cell? ⟨G0, 11, none⟩ = some (.int .u64 z1.a1) := (k0.below hb).cell 11
          have c2 : w1.cell? ⟨G0, 12, none⟩ = some (.int .u64 z1.a2) := (k0.below hb).cell 12
          have c3 : w1.cell? ⟨G0, 13, none⟩ = some (.int .u64 z1.a3) := (k0.below hb).cell 13
          have c4 : w1.cell? ⟨G0, 14, none⟩ = some (.int .u64 z1.a4) := (k0.below hb).cell 14
          go_wp2
          exact hK.out _ _ rfl (.refl _ _) nof
        refine steps2_cons ?_ ?_
        · intro f w1 hb hd Q hK
          have e30 : f 30 = .agg #[.int .u64 z1.a0, .int .u64 z1.a1, .int .u64 z1.a2, .int .u64 z1.a3, .int .u64 z1.a4] := hd.1 rfl
          clear hd
          simp only [e30] at hK
          have hK := Lib.hid hK
          go_wp2_with fail
          refine (fZeroV hz1 hZ _).mono ?_
          rintro e w2 ⟨rfl, hb2⟩
          go_wp2
          exact hK.out _ _ rfl hb2 nof
        refine steps2_cons ?_ ?_
        · intro f w1 hb hd Q hK
          have e31 : f 31 = .bool false := hd.1 rfl
          clear hd
          simp only [e31] at hK
          have hK := Lib.hid hK
          go_wp2
          exact hK.out _ _ rfl (.refl _ _) nof
        refine steps2_cons ?_ ?_
        · intro f w1 hb hd Q hK
          have e32 : f 32 = .bool true := hd.1 rfl
          clear hd
          simp only [e32] at hK
          have hK := Lib.hid hK
          go_wp2
          exact hK.out _ _ rfl (.refl _ _) nof
        refine steps2_cons ?_ ?_
        · intro f w1 hb hd Q hK
          have e33 : f 33 = .bool true := hd.1 rfl
          clear hd
          simp only [e33] at hK
          have hK := Lib.hid hK
          go_wp2
          exact hK.out _ _ rfl (.refl _ _) nof
        refine steps2_cons ?_ ?_
        · intro f w1 hb hd Q hK
          have e34 : f 34 = .pointer (some ⟨G0, 15, none⟩) := hd.1 rfl
          have e33 : f 33 = .bool true := hd.2.1 rfl
          clear hd
          simp only [e34, e33] at hK
          have hK := Lib.hid hK
          have c0 : w1.cell? ⟨G0, 15, none⟩ = some (.int .u64 t1.a0) := (k0.below hb).cell 15
          have c1 : w1.cell? ⟨G0, 16, none⟩ = some (.int .u64 t1.a1) := (k0.below hb).cell 16
          have c2 : w1.cell? ⟨G0, 17, none⟩ = some (.int .u64 t1.a2) := (k0.below hb).cell 17
          have c3 : w1.cell? ⟨G0, 18, none⟩ = some (.int .u64 t1.a3) := (k0.below hb).cell 18
          have c4 : w1.cell? ⟨G0, 19, none⟩ = some (.int .u64 t1.a4) := (k0.below hb).cell 19
          go_wp2
          exact hK.out _ _ rfl (.refl _ _) nof
        refine steps2_cons ?_ ?_
        · intro f w1 hb hd Q hK
          have e33 : f 33 = .bool true := hd.1 rfl
          clear hd
          simp only [e33] at hK
          have hK := Lib.hid hK
          go_wp2
          exact hK.out _ _ rfl (.refl _ _) nof
        refine steps2_cons ?_ ?_
        · intro f w1 hb hd Q hK
          have e36 : f 36 = .pointer (some ⟨G0, 10, none⟩) := hd.1 rfl
          have e33 : f 33 = .bool true := hd.2.1 rfl
          clear hd
          simp only [e36, e33] at hK
          have hK := Lib.hid hK
          have c0 : w1.cell? ⟨G0, 10, none⟩ = some (.int .u64 z1.a0) := (k0.below hb).cell 10
          have c1 : w1.cell? ⟨G0, 11, none⟩ = some (.int .u64 z1.a1) := (k0.below hb).cell 11
          have c2 : w1.cell? ⟨G0, 12, none⟩ = some (.int .u64 z1.a2) := (k0.below hb).cell 12
          have c3 : w1.cell? ⟨G0, 13, none⟩ = some (.int .u64 z1.a3) := (k0.below hb).cell 13
          have c4 : w1.cell? ⟨G0, 14, none⟩ = some (.int .u64 z1.a4) := (k0.below hb).cell 14
          go_wp2
          exact hK.out _ _ rfl (.refl _ _) nof
        refine steps2_cons ?_ ?_
        · intro f w1 hb hd Q hK
          have e35 : f 35 = .agg #[.int .u64 t1.a0, .int .u64 t1.a1, .int .u64 t1.a2, .int .u64 t1.a3, .int .u64 t1.a4] := hd.1 rfl
          have e37 : f 37 = .agg #[.int .u64 z1.a0, .int .u64 z1.a1, .int .u64 z1.a2, .int .u64 z1.a3, .int .u64 z1.a4] := hd.2.1 rfl
          have e33 : f 33 = .bool true := hd.2.2.1 rfl
          clear hd
          simp only [e35, e37, e33] at hK
          have hK := Lib.hid hK
          go_wp2_with fail
          refine (fMul ht1 hz1 _).mono ?_
          rintro e w2 ⟨x, rfl, hx, hb2⟩
          go_wp2
          exact hK.out _ _ ⟨x, rfl, hx⟩ hb2 nof
        refine steps2_cons ?_ ?_
        · intro f w1 hb hd Q hK
          have e33 : f 33 = .bool true := hd.1 rfl
          clear hd
          simp only [e33] at hK
          have hK := Lib.hid hK
          go_wp2
          exact hK.out _ _ rfl (.refl _ _) nof
        refine steps2_cons ?_ ?_
        · intro f w1 hb hd Q hK
          have e39 : f 39 = .pointer (some ⟨G0, 0, none⟩) := hd.1 rfl
          have e33 : f 33 = .bool true := hd.2.1 rfl
          clear hd
          simp only [e39, e33] at hK
          have hK := Lib.hid hK
          have c0 : w1.cell? ⟨G0, 0, none⟩ = some (.int .u64 x1.a0) := (k0.below hb).cell 0
          have c1 : w1.cell? ⟨G0, 1, none⟩ = some (.int .u64 x1.a1) := (k0.below hb).cell 1
          have c2 : w1.cell? ⟨G0, 2, none⟩ = some (.int .u64 x1.a2) := (k0.below hb).cell 2
          have c3 : w1.cell? ⟨G0, 3, none⟩ = some (.int .u64 x1.a3) := (k0.below hb).cell 3
          have c4 : w1.cell? ⟨G0, 4, none⟩ = some (.int .u64 x1.a4) := (k0.below hb).cell 4
          go_wp2
          exact hK.out _ _ rfl (.refl _ _) nof
        refine steps2_cons ?_ ?_
        · intro f w1 hb hd Q hK
          have e33 : f 33 = .bool true := hd.1 rfl
          clear hd
          simp only [e33] at hK
          have hK := Lib.hid hK
          go_wp2
          exact hK.out _ _ rfl (.refl _ _) nof
        refine steps2_cons ?_ ?_
        · intro f w1 hb hd Q hK
          have e41 : f 41 = .pointer (some ⟨G0, 5, none⟩) := hd.1 rfl
          have e33 : f 33 = .bool true := hd.2.1 rfl
          clear hd
          simp only [e41, e33] at hK
          have hK := Lib.hid hK
          have c0 : w1.cell? ⟨G0, 5, none⟩ = some (.int .u64 y1.a0) := (k0.below hb).cell 5
          have c1 : w1.cell? ⟨G0, 6, none⟩ = some (.int .u64 y1.a1) := (k0.below hb).cell 6
          have c2 : w1.cell? ⟨G0, 7, none⟩ = some (.int .u64 y1.a2) := (k0.below hb).cell 7
          have c3 : w1.cell? ⟨G0, 8, none⟩ = some (.int .u64 y1.a3) := (k0.below hb).cell 8
          have c4 : w1.cell? ⟨G0, 9, none⟩ = some (.int .u64 y1.a4) := (k0.below hb).cell 9
          go_wp2
          exact hK.out _ _ rfl (.refl _ _) nof
        refine steps2_cons ?_ ?_
        · intro f w1 hb hd Q hK
          have e40 : f 40 = .agg #[.int .u64 x1.a0, .int .u64 x1.a1, .int .u64 x1.a2, .int .u64 x1.a3, .int .u64 x1.a4] := hd.1 rfl
          have e42 : f 42 = .agg #[.int .u64 y1.a0, .int .u64 y1.a1, .int .u64 y1.a2, .int .u64 y1.a3, .int .u64 y1.a4] := hd.2.1 rfl
          have e33 : f 33 = .bool true := hd.2.2.2.1 rfl
          clear hd
          simp only [e40, e42, e33] at hK
          have hK := Lib.hid hK
          go_wp2_with fail
          refine (fMul hx1 hy1 _).mono ?_
          rintro e w2 ⟨x, rfl, hx, hb2⟩
          go_wp2
          exact hK.out _ _ ⟨x, rfl, hx⟩ hb2 nof
        refine steps2_cons ?_ ?_
        · intro f w1 hb hd Q hK
          obtain ⟨x38, e38, h38⟩ := (hd.1 rfl : ElP (d * c % Fe.P) (f 38) w1)
          obtain ⟨x43, e43, h43⟩ := (hd.2.1 rfl : ElP (a * b % Fe.P) (f 43) w1)
          have e33 : f 33 = .bool true := hd.2.2.2.1 rfl
          clear hd
          simp only [e38, e43, e33] at hK
          have hK := Lib.hid hK
          go_wp2_with fail
          refine (fSameV h38 h43 hS _).mono ?_
          rintro e w2 ⟨rfl, hb2⟩
          go_wp2
          exact hK.out _ _ rfl hb2 nof
        refine steps2_cons ?_ ?_
        · intro f w1 hb hd Q hK
          have e33 : f 33 = .bool true := hd.1 rfl
          have e44 : f 44 = .bool false := hd.2.1 rfl
          clear hd
          simp only [e33, e44] at hK
          have hK := Lib.hid hK
          go_wp2
          exact hK.out _ _ rfl (.refl _ _) nof
        refine steps2_cons ?_ ?_
        · intro f w1 hb hd Q hK
          have e45 : f 45 = .bool false := hd.1 rfl
          clear hd
          simp only [e45] at hK
          have hK := Lib.hid hK
          go_wp2
          exact hK.out _ _ rfl (.refl _ _) nof
        refine steps2_cons ?_ ?_
        · intro f w1 hb hd Q hK
          have e46 : f 46 = .bool false := hd.1 rfl
          clear hd
          simp only [e46] at hK
          have hK := Lib.hid hK
          go_wp2
          exact hK.out _ _ rfl (.refl _ _) nof
        refine steps2_cons ?_ ?_
        · intro f w1 hb hd Q hK
          have e46 : f 46 = .bool false := hd.1 rfl
          have e47 : f 47 = undef := hd.2.1 rfl
          clear hd
          simp only [e46, e47] at hK
          have hK := Lib.hid hK
          go_wp2
          exact hK.out _ _ rfl (.refl _ _) nof
        refine steps2_cons ?_ ?_
        · intro f w1 hb hd Q hK
          have e48 : f 48 = .bool false := hd.1 rfl
          clear hd
          simp only [e48] at hK
          have hK := Lib.hid hK
          go_wp2
          exact hK.out _ _ rfl (.refl _ _) nof
        trivial
      intro fh yw3 hb hf hne
      refine wpList_nil ?_
      have d2 : fh 2 = .bool false := hf 20 _ _ (by decide) rfl rfl
      clear hf hne
      replace hb0 := hb0.trans (hb.mono hb0.size)
      simp only [d2]
      clear d2
      go_wp2
      go_returns
      refine ⟨?_, hb0⟩
      unfold onP
      rw [hZ, hS]
      skip
      rfl
    refine wp_region_grow2 21 (fun k => Nat.beq k 2 || (Nat.ble 29 k && Nat.ble k 48)) _ [] (fun j x' q => (on3tL x1 y1 z1 t1 a b c d G0 PB).getD j (fun _ _ => True) x' q) (fun _ => false) (fun f => #[.agg #[.int .u64 x1.a0, .int .u64 x1.a1, .int .u64 x1.a2, .int .u64 x1.a3, .int .u64 x1.a4, .int .u64 y1.a0, .int .u64 y1.a1, .int .u64 y1.a2, .int .u64 y1.a3, .int .u64 y1.a4, .int .u64 z1.a0, .int .u64 z1.a1, .int .u64 z1.a2, .int .u64 z1.a3, .int .u64 z1.a4, .int .u64 t1.a0, .int .u64 t1.a1, .int .u64 t1.a2, .int .u64 t1.a3, .int .u64 t1.a4], .pointer (some ⟨G0, 0, none⟩), f 2, .pointer (some ⟨g3, 0, none⟩), .pointer (some ⟨g4, 0, none⟩), .pointer (some ⟨g5, 0, none⟩), .pointer (some ⟨g6, 0, none⟩), .bool (PB), ff 8, ff 9, .agg #[.int .u64 x10.a0, .int .u64 x10.a1, .int .u64 x10.a2, .int .u64 x10.a3, .int .u64 x10.a4], ff 11, ff 12, .agg #[.int .u64 x13.a0, .int .u64 x13.a1, .int .u64 x13.a2, .int .u64 x13.a3, .int .u64 x13.a4], ff 14, ff 15, .agg #[.int .u64 x16.a0, .int .u64 x16.a1, .int .u64 x16.a2, .int .u64 x16.a3, .int .u64 x16.a4], ff 17, ff 18, .agg #[.int .u64 x19.a0, .int .u64 x19.a1, .int .u64 x19.a2, .int .u64 x19.a3, .int .u64 x19.a4], fg 20, fg 21, fg 22, fg 23, fg 24, fg 25, fg 26, fg 27, fg 28, f 29, f 30, f 31, f 32, f 33, f 34, f 35, f 36, f 37, f 38, f 39, f 40, f 41, f 42, f 43, f 44, f 45, f 46, f 47, f 48]) (fun f => rfl) (by kernel_rfl) (by kernel_rfl) (by kernel_rfl) (by kernel_rfl) (by kernel_rfl) (on3tS _ _ _ _ _ _ _ _ _ _) (fun _ _ _ h => by cases h) ?_ ?_
    · refine steps2_cons ?_ ?_
      · intro f w1 hb hd Q hK
        clear hd
        have hK := Lib.hid hK
        go_wp2
        exact hK.out _ _ rfl (.refl _ _) nof
      refine steps2_cons ?_ ?_
      · intro f w1 hb hd Q hK
        have e29 : f 29 = .pointer (some ⟨G0, 10, none⟩) := hd.1 rfl
        clear hd
        simp only [e29] at hK
        have hK := Lib.hid hK
        have c0 : w1.cell? ⟨G0, 10, none⟩ = some (.int .u64 z1.a0) := (k0.below hb).cell 10
        have c1 : w1.cell? ⟨G0, 11, none⟩ = some (.int .u64 z1.a1) := (k0.below hb).cell 11
        have c2 : w1.cell? ⟨G0, 12, none⟩ = some (.int .u64 z1.a2) := (k0.below hb).cell 12
        have c3 : w1.cell? ⟨G0, 13, none⟩ = some (.int .u64 z1.a3) := (k0.below hb).cell 13
        have c4 : w1.cell? ⟨G0, 14, none⟩ = some (.int .u64 z1.a4) := (k0.below hb).cell 14
        go_wp2
        exact hK.out _ _ rfl (.refl _ _) nof
      refine steps2_cons ?_ ?_
      · intro f w1 hb hd Q hK
        have e30 : f 30 = .agg #[.int .u64 z1.a0, .int .u64 z1.a1, .int .u64 z1.a2, .int .u64 z1.a3, .int .u64 z1.a4] := hd.1 rfl
        clear hd
        simp only [e30] at hK
        have hK := Lib.hid hK
        go_wp2_with fail
        refine (fZeroV hz1 hZ _).mono ?_
        rintro e w2 ⟨rfl, hb2⟩
        go_wp2
        exact hK.out _ _ rfl hb2 nof
      refine steps2_cons ?_ ?_
      · intro f w1 hb hd Q hK
        have e31 : f 31 = .bool false := hd.1 rfl
        clear hd
        simp only [e31] at hK
        have hK := Lib.hid hK
        go_wp2
        exact hK.out _ _ rfl (.refl _ _) nof
      refine steps2_cons ?_ ?_
      · intro f w1 hb hd Q hK
        have e32 : f 32 = .bool true := hd.1 rfl
        clear hd
        simp only [e32] at hK
        have hK := Lib.hid hK
        go_wp2
        exact hK.out _ _ rfl (.refl _ _) nof
      refine steps2_cons ?_ ?_
      · intro f w1 hb hd Q hK
        have e33 : f 33 = .bool true := hd.1 rfl
        clear hd
        simp only [e33] at hK
        have hK := Lib.hid hK
        go_wp2
        exact hK.out _ _ rfl (.refl _ _) nof
      refine steps2_cons ?_ ?_
      · intro f w1 hb hd Q hK
        have e34 : f 34 = .pointer (some ⟨G0, 15, none⟩) := hd.1 rfl
        have e33 : f 33 = .bool true := hd.2.1 rfl
        clear hd
        simp only [e34, e33] at hK
        have hK := Lib.hid hK
        have c0 : w1.cell? ⟨G0, 15, none⟩ = some (.int .u64 t1.a0) := (k0.below hb).cell 15
        have c1 : w1.cell? ⟨G0, 16, none⟩ = some (.int .u64 t1.a1) := (k0.below hb).cell 16
        have c2 : w1.cell? ⟨G0, 17, none⟩ = some (.int .u64 t1.a2) := (k0.below hb).cell 17
        have c3 : w1.cell? ⟨G0, 18, none⟩ = some (.int .u64 t1.a3) := (k0.below hb).cell 18
        have c4 : w1.cell? ⟨G0, 19, none⟩ = some (.int .u64 t1.a4) := (k0.below hb).cell 19
        go_wp2
        exact hK.out _ _ rfl (.refl _ _) nof
      refine steps2_cons ?_ ?_
      · intro f w1 hb hd Q hK
        have e33 : f 33 = .bool true := hd.1 rfl
        clear hd
        simp only [e33] at hK
        have hK := Lib.hid hK
        go_wp2
        exact hK.out _ _ rfl (.refl _ _) nof
      refine steps2_cons ?_ ?_
      · intro f w1 hb hd Q hK
        have e36 : f 36 = .pointer (some ⟨G0, 10, none⟩) := hd.1 rfl
        have e33 : f 33 = .bool true := hd.2.1 rfl
        clear hd
        simp only [e36, e33] at hK
        have hK := Lib.hid hK
        have c0 : w1.cell? ⟨G0, 10, none⟩ = some (.int .u64 z1.a0) := (k0.below hb).cell 10
        have c1 : w1.cell? ⟨G0, 11, none⟩ = some (.int .u64 z1.a1) := (k0.below hb).cell 11
        have c2 : w1.cell? ⟨G0, 12, none⟩ = some (.int .u64 z1.a2) := (k0.below hb).cell 12
        have c3 : w1.cell? ⟨G0, 13, none⟩ = some (.int .u64 z1.a3) := (k0.below hb).cell 13
        have c4 : w1.cell? ⟨G0, 14, none⟩ = some (.int .u64 z1.a4) := (k0.below hb).cell 14
        go_wp2
        exact hK.out _ _ rfl (.refl _ _) nof
      refine steps2_cons ?_ ?_
      · intro f w1 hb hd Q hK
        have e35 : f 35 = .agg #[.int .u64 t1.a0, .int .u64 t1.a1, .int .u64 t1.a2, .int .u64 t1.a3, .int .u64 t1.a4] := hd.1 rfl
        have e37 : f 37 = .agg #[.int .u64 z1.a0, .int .u64 z1.a1, .int .u64 z1.a2, .int .u64 z1.a3, .int .u64 z1.a4] := hd.2.1 rfl
        have e33 : f 33 = .bool true := hd.2.2.1 rfl
        clear hd
        simp only [e35, e37, e33] at hK
        have hK := Lib.hid hK
        go_wp2_with fail
        refine (fMul ht1 hz1 _).mono ?_
        rintro e w2 ⟨x, rfl, hx, hb2⟩
        go_wp2
        exact hK.out _ _ ⟨x, rfl, hx⟩ hb2 nof
      refine steps2_cons ?_ ?_
      · intro f w1 hb hd Q hK
        have e33 : f 33 = .bool true := hd.1 rfl
        clear hd
        simp only [e33] at hK
        have hK := Lib.hid hK
        go_wp2
        exact hK.out _ _ rfl (.refl _ _) nof
      refine steps2_cons ?_ ?_
      · intro f w1 hb hd Q hK
        have e39 : f 39 = .pointer (some ⟨G0, 0, none⟩) := hd.1 rfl
        have e33 : f 33 = .bool true := hd.2.1 rfl
        clear hd
        simp only [e39, e33] at hK
        have hK := Lib.hid hK
        have c0 : w1.cell? ⟨G0, 0, none⟩ = some (.int .u64 x1.a0) := (k0.below hb).cell 0
        have c1 : w1.cell? ⟨G0, 1, none⟩ = some (.int .u64 x1.a1) := (k0.below hb).cell 1
        have c2 : w1.cell? ⟨G0, 2, none⟩ = some (.int .u64 x1.a2) := (k0.below hb).cell 2
        have c3 : w1.cell? ⟨G0, 3, none⟩ = some (.int .u64 x1.a3) := (k0.below hb).cell 3
        have c4 : w1.cell? ⟨G0, 4, none⟩ = some (.int .u64 x1.a4) := (k0.below hb).cell 4
        go_wp2
        exact hK.out _ _ rfl (.refl _ _) nof
      refine steps2_cons ?_ ?_
      · intro f w1 hb hd Q hK
        have e33 : f 33 = .bool true := hd.1 rfl
        clear hd
        simp only [e33] at hK
        have hK := Lib.hid hK
        go_wp2
        exact hK.out _ _ rfl (.refl _ _) nof
      refine steps2_cons ?_ ?_
      · intro f w1 hb hd Q hK
        have e41 : f 41 = .pointer (some ⟨G0, 5, none⟩) := hd.1 rfl
        have e33 : f 33 = .bool true := hd.2.1 rfl
        clear hd
        simp only [e41, e33] at hK
        have hK := Lib.hid hK
        have c0 : w1.cell? ⟨G0, 5, none⟩ = some (.int .u64 y1.a0) := (k0.below hb).cell 5
        have c1 : w1.cell? ⟨G0, 6, none⟩ = some (.int .u64 y1.a1) := (k0.below hb).cell 6
        have c2 : w1.cell? ⟨G0, 7, none⟩ = some (.int .u64 y1.a2) := (k0.below hb).cell 7
        have c3 : w1.cell? ⟨G0, 8, none⟩ = some (.int .u64 y1.a3) := (k0.below hb).cell 8
        have c4 : w1.cell? ⟨G0, 9, none⟩ = some (.int .u64 y1.a4) := (k0.below hb).cell 9
        go_wp2
        exact hK.out _ _ rfl (.refl _ _) nof
      refine steps2_cons ?_ ?_
      · intro f w1 hb hd Q hK
        have e40 : f 40 = .agg #[.int .u64 x1.a0, .int .u64 x1.a1, .int .u64 x1.a2, .int .u64 x1.a3, .int .u64 x1.a4] := hd.1 rfl
        have e42 : f 42 = .agg #[.int .u64 y1.a0, .int .u64 y1.a1, .int .u64 y1.a2, .int .u64 y1.a3, .int .u64 y1.a4] := hd.2.1 rfl
        have e33 : f 33 = .bool true := hd.2.2.2.1 rfl
        clear hd
        simp only [e40, e42, e33] at hK
        have hK := Lib.hid hK
        go_wp2_with fail
        refine (fMul hx1 hy1 _).mono ?_
        rintro e w2 ⟨x, rfl, hx, hb2⟩
        go_wp2
        exact hK.out _ _ ⟨x, rfl, hx⟩ hb2 nof
      refine steps2_cons ?_ ?_
      · intro f w1 hb hd Q hK
        obtain ⟨x38, e38, h38⟩ := (hd.1 rfl : ElP (d * c % Fe.P) (f 38) w1)
        obtain ⟨x43, e43, h43⟩ := (hd.2.1 rfl : ElP (a * b % Fe.P) (f 43) w1)
        have e33 : f 33 = .bool true := hd.2.2.2.1 rfl
        clear hd
        simp only [e38, e43, e33] at hK
        have hK := Lib.hid hK
        go_wp2_with fail
        refine (fSameV h38 h43 hS _).mono ?_
        rintro e w2 ⟨rfl, hb2⟩
        go_wp2
        exact hK.out _ _ rfl hb2 nof
      refine steps2_cons ?_ ?_
      · intro f w1 hb hd Q hK
        have e33 : f 33 = .bool true := hd.1 rfl
        have e44 : f 44 = .bool true := hd.2.1 rfl
        clear hd
        simp only [e33, e44] at hK
        have hK := Lib.hid hK
        go_wp2
        exact hK.out _ _ rfl (.refl _ _) nof
      refine steps2_cons ?_ ?_
      · intro f w1 hb hd Q hK
        have e45 : f 45 = .bool true := hd.1 rfl
        clear hd
        simp only [e45] at hK
        have hK := Lib.hid hK
        go_wp2
        exact hK.out _ _ rfl (.refl _ _) nof
      refine steps2_cons ?_ ?_
      · intro f w1 hb hd Q hK
        have e46 : f 46 = .bool true := hd.1 rfl
        clear hd
        simp only [e46] at hK
        have hK := Lib.hid hK
        go_wp2
        exact hK.out _ _ rfl (.refl _ _) nof
      refine steps2_cons ?_ ?_
      · intro f w1 hb hd Q hK
        have e46 : f 46 = .bool true := hd.1 rfl
        have e47 : f 47 = .bool (PB) := hd.2.1 rfl
        clear hd
        simp only [e46, e47] at hK
        have hK := Lib.hid hK
        go_wp2
        exact hK.out _ _ rfl (.refl _ _) nof
      refine steps2_cons ?_ ?_
      · intro f w1 hb hd Q hK
        have e48 : f 48 = .bool (PB) := hd.1 rfl
        clear hd
        simp only [e48] at hK
        have hK := Lib.hid hK
        go_wp2
        exact hK.out _ _ rfl (.refl _ _) nof
      trivial
    intro fh yw3 hb hf hne
    refine wpList_nil ?_
    have d2 : fh 2 = .bool (PB) := hf 20 _ _ (by decide) rfl rfl
    clear hf hne
    replace hb0 := hb0.trans (hb.mono hb0.size)
    simp only [d2]
    clear d2
    go_wp2
    go_returns
    refine ⟨?_, hb0⟩
    unfold onP
    rw [hZ, hS, hPB.out]
    simp only [Bool.not_false, Bool.true_and]
    rfl
  refine wp_region_grow2 21 (fun k => Nat.beq k 2 || (Nat.ble 29 k && Nat.ble k 48)) _ [] (fun j x' q => (on3zL z1 G0).getD j (fun _ _ => True) x' q) (fun _ => false) (fun f => #[.agg #[.int .u64 x1.a0, .int .u64 x1.a1, .int .u64 x1.a2, .int .u64 x1.a3, .int .u64 x1.a4, .int .u64 y1.a0, .int .u64 y1.a1, .int .u64 y1.a2, .int .u64 y1.a3, .int .u64 y1.a4, .int .u64 z1.a0, .int .u64 z1.a1, .int .u64 z1.a2, .int .u64 z1.a3, .int .u64 z1.a4, .int .u64 t1.a0, .int .u64 t1.a1, .int .u64 t1.a2, .int .u64 t1.a3, .int .u64 t1.a4], .pointer (some ⟨G0, 0, none⟩), f 2, .pointer (some ⟨g3, 0, none⟩), .pointer (some ⟨g4, 0, none⟩), .pointer (some ⟨g5, 0, none⟩), .pointer (some ⟨g6, 0, none⟩), .bool (PB), ff 8, ff 9, .agg #[.int .u64 x10.a0, .int .u64 x10.a1, .int .u64 x10.a2, .int .u64 x10.a3, .int .u64 x10.a4], ff 11, ff 12, .agg #[.int .u64 x13.a0, .int .u64 x13.a1, .int .u64 x13.a2, .int .u64 x13.a3, .int .u64 x13.a4], ff 14, ff 15, .agg #[.int .u64 x16.a0, .int .u64 x16.a1, .int .u64 x16.a2, .int .u64 x16.a3, .int .u64 x16.a4], ff 17, ff 18, .agg #[.int .u64 x19.a0, .int .u64 x19.a1, .int .u64 x19.a2, .int .u64 x19.a3, .int .u64 x19.a4], fg 20, fg 21, fg 22, fg 23, fg 24, fg 25, fg 26, fg 27, fg 28, f 29, f 30, f 31, f 32, f 33, f 34, f 35, f 36, f 37, f 38, f 39, f 40, f 41, f 42, f 43, f 44, f 45, f 46, f 47, f 48]) (fun f => rfl) (by kernel_rfl) (by kernel_rfl) (by kernel_rfl) (by kernel_rfl) (by kernel_rfl) (on3zS _ _) (fun _ _ _ h => by cases h) ?_ ?_
  · refine steps2_cons ?_ ?_
    · intro f w1 hb hd Q hK
      clear hd
      have hK := Lib.hid hK
      go_wp2
      exact hK.out _ _ rfl (.refl _ _) nof
    refine steps2_cons ?_ ?_
    · intro f w1 hb hd Q hK
      have e29 : f 29 = .pointer (some ⟨G0, 10, none⟩) := hd.1 rfl
      clear hd
      simp only [e29] at hK
      have hK := Lib.hid hK
      have c0 : w1.cell? ⟨G0, 10, none⟩ = some (.int .u64 z1.a0) := (k0.below hb).cell 10
      have c1 : w1.cell? ⟨G0, 11, none⟩ = some (.int .u64 z1.a1) := (k0.below hb).cell 11
      have c2 : w1.cell? ⟨G0, 12, none⟩ = some (.int .u64 z1.a2) := (k0.below hb).cell 12
      have c3 : w1.cell? ⟨G0, 13, none⟩ = some (.int .u64 z1.a3) := (k0.below hb).cell 13
      have c4 : w1.cell? ⟨G0, 14, none⟩ = some (.int .u64 z1.a4) := (k0.below hb).cell 14
      go_wp2
      exact hK.out _ _ rfl (.refl _ _) nof
    refine steps2_cons ?_ ?_
    · intro f w1 hb hd Q hK
      have e30 : f 30 = .agg #[.int .u64 z1.a0, .int .u64 z1.a1, .int .u64 z1.a2, .int .u64 z1.a3, .int .u64 z1.a4] := hd.1 rfl
      clear hd
      simp only [e30] at hK
      have hK := Lib.hid hK
      go_wp2_with fail
      refine (fZeroV hz1 hZ _).mono ?_
      rintro e w2 ⟨rfl, hb2⟩
      go_wp2
      exact hK.out _ _ rfl hb2 nof
    refine steps2_cons ?_ ?_
    · intro f w1 hb hd Q hK
      have e31 : f 31 = .bool true := hd.1 rfl
      clear hd
      simp only [e31] at hK
      have hK := Lib.hid hK
      go_wp2
      exact hK.out _ _ rfl (.refl _ _) nof
    refine steps2_cons ?_ ?_
    · intro f w1 hb hd Q hK
      have e32 : f 32 = .bool false := hd.1 rfl
      clear hd
      simp only [e32] at hK
      have hK := Lib.hid hK
      go_wp2
      exact hK.out _ _ rfl (.refl _ _) nof
    refine steps2_cons ?_ ?_
    · intro f w1 hb hd Q hK
      have e33 : f 33 = .bool false := hd.1 rfl
      clear hd
      simp only [e33] at hK
      have hK := Lib.hid hK
      go_wp2
      exact hK.out _ _ rfl (.refl _ _) nof
    refine steps2_cons ?_ ?_
    · intro f w1 hb hd Q hK
      have e34 : f 34 = undef := hd.1 rfl
      have e33 : f 33 = .bool false := hd.2.1 rfl
      clear hd
      simp only [e34, e33] at hK
      have hK := Lib.hid hK
      go_wp2
      exact hK.out _ _ rfl (.refl _ _) nof
    refine steps2_cons ?_ ?_
    · intro f w1 hb hd Q hK
      have e33 : f 33 = .bool false := hd.1 rfl
      clear hd
      simp only [e33] at hK
      have hK := Lib.hid hK
      go_wp2
      exact hK.out _ _ rfl (.refl _ _) nof
    refine steps2_cons ?_ ?_
    · intro f w1 hb hd Q hK
      have e36 : f 36 = undef := hd.1 rfl
      have e33 : f 33 = .bool false := hd.2.1 rfl
      clear hd
      simp only [e36, e33] at hK
      have hK := Lib.hid hK
      go_wp2
      exact hK.out _ _ rfl (.refl _ _) nof
    refine steps2_cons ?_ ?_
    · intro f w1 hb hd Q hK
      have e35 : f 35 = undef := hd.1 rfl
      have e37 : f 37 = undef := hd.2.1 rfl
      have e33 : f 33 = .bool false := hd.2.2.1 rfl
      clear hd
      simp only [e35, e37, e33] at hK
      have hK := Lib.hid hK
      go_wp2
      exact hK.out _ _ rfl (.refl _ _) nof
    refine steps2_cons ?_ ?_
    · intro f w1 hb hd Q hK
      have e33 : f 33 = .bool false := hd.1 rfl
      clear hd
      simp only [e33] at hK
      have hK := Lib.hid hK
      go_wp2
      exact hK.out _ _ rfl (.refl _ _) nof
    refine steps2_cons ?_ ?_
    · intro f w1 hb hd Q hK
      have e39 : f 39 = undef := hd.1 rfl
      have e33 : f 33 = .bool false := hd.2.1 rfl
      clear hd
      simp only [e39, e33] at hK
      have hK := Lib.hid hK
      go_wp2
      exact hK.out _ _ rfl (.refl _ _) nof
    refine steps2_cons ?_ ?_
    · intro f w1 hb hd Q hK
      have e33 : f 33 = .bool false := hd.1 rfl
      clear hd
      simp only [e33] at hK
      have hK := Lib.hid hK
      go_wp2
      exact hK.out _ _ rfl (.refl _ _) nof
    refine steps2_cons ?_ ?_
    · intro f w1 hb hd Q hK
      have e41 : f 41 = undef := hd.1 rfl
      have e33 : f 33 = .bool false := hd.2.1 rfl
      clear hd
      simp only [e41, e33] at hK
      have hK := Lib.hid hK
      go_wp2
      exact hK.out _ _ rfl (.refl _ _) nof
    refine steps2_cons ?_ ?_
    · intro f w1 hb hd Q hK
      have e40 : f 40 = undef := hd.1 rfl
      have e42 : f 42 = undef := hd.2.1 rfl
      have e33 : f 33 = .bool false := hd.2.2.2.1 rfl
      clear hd
      simp only [e40, e42, e33] at hK
      have hK := Lib.hid hK
      go_wp2
      exact hK.out _ _ rfl (.refl _ _) nof
    refine steps2_cons ?_ ?_
    · intro f w1 hb hd Q hK
      have e38 : f 38 = undef := hd.1 rfl
      have e43 : f 43 = undef := hd.2.1 rfl
      have e33 : f 33 = .bool false := hd.2.2.2.1 rfl
      clear hd
      simp only [e38, e43, e33] at hK
      have hK := Lib.hid hK
      go_wp2
      exact hK.out _ _ rfl (.refl _ _) nof
    refine steps2_cons ?_ ?_
    · intro f w1 hb hd Q hK
      have e33 : f 33 = .bool false := hd.1 rfl
      have e44 : f 44 = undef := hd.2.1 rfl
      clear hd
      simp only [e33, e44] at hK
      have hK := Lib.hid hK
      go_wp2
      exact hK.out _ _ rfl (.refl _ _) nof
    refine steps2_cons ?_ ?_
    · intro f w1 hb hd Q hK
      have e45 : f 45 = .bool false := hd.1 rfl
      clear hd
      simp only [e45] at hK
      have hK := Lib.hid hK
      go_wp2
      exact hK.out _ _ rfl (.refl _ _) nof
    refine steps2_cons ?_ ?_
    · intro f w1 hb hd Q hK
      have e46 : f 46 = .bool false := hd.1 rfl
      clear hd
      simp only [e46] at hK
      have hK := Lib.hid hK
      go_wp2
      exact hK.out _ _ rfl (.refl _ _) nof
    refine steps2_cons ?_ ?_
    · intro f w1 hb hd Q hK
      have e46 : f 46 = .bool false := hd.1 rfl
      have e47 : f 47 = undef := hd.2.1 rfl
      clear hd
      simp only [e46, e47] at hK
      have hK := Lib.hid hK
      go_wp2
      exact hK.out _ _ rfl (.refl _ _) nof
    refine steps2_cons ?_ ?_
    · intro f w1 hb hd Q hK
      have e48 : f 48 = .bool false := hd.1 rfl
      clear hd
      simp only [e48] at hK
      have hK := Lib.hid hK
      go_wp2
      exact hK.out _ _ rfl (.refl _ _) nof
    trivial
  intro fh yw3 hb hf hne
  refine wpList_nil ?_
  have d2 : fh 2 = .bool false := hf 20 _ _ (by decide) rfl rfl
  clear hf hne
  replace hb0 := hb0.trans (hb.mono hb0.size)
  simp only [d2]
  clear d2
  go_wp2
  go_returns
  refine ⟨?_, hb0⟩
  unfold onP
  rw [hZ]
  skip
  rfl
end Go.Proofs.YtigcobcpfmnhoaaDoor
