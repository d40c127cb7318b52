/- ApartBytes of two rows of one's own answers true. -/
import Derived.Test.YtjejibojcjfleaaGreatQd
import Derived.Test.YtjejibojcjfleaaGreatFp
namespace Go.Proofs.YtjejibojcjfleaaGreat
open Go.RowKit
set_option maxRecDepth 20000 in
set_option maxRecDepth 20000 in
set_option maxHeartbeats 2000000 in
theorem apartBytes_g (A CA g0 n0 k0 g1 n1 k1 : Nat) (w : World) (R : Ending → World → Prop) (hA : A < w.heap.size) (c0 : w.cell? ⟨A, 0, none⟩ = some (.slice (some ⟨g0, 0, none⟩) n0 k0)) (c1 : w.cell? ⟨A, 1, none⟩ = some (.slice (some ⟨g1, 0, none⟩) n1 k1))
    (hap : ∀ w' L C, w.heap.size < L → Blk w' w.heap.size 81 (bagA (.slice (some ⟨L, 0, none⟩) 2 C)) → RowP w' L C [.slice (some ⟨g0, 0, none⟩) n0 k0, .slice (some ⟨g1, 0, none⟩) n1 k1] → Below w.heap.size w w' →
      Calls Tryz.prog 32 #[.pointer (some ⟨w.heap.size, 0, none⟩)] w' fun e w'' => e = .returned (.bool true) ∧ R e w'') :
    Calls Tryz.prog 13 #[.slice (some ⟨A, 0, none⟩) 2 CA] w R := by
  replace hap := Lib.hid hap
  go_enter Tryz.func13, Tryz.ntmps13
  go_wp2
  refine wp_loop_rounds 3 ?_
  rw [rounds_succ]
  go_wp2_with fail
  refine calls_at (fun W0 hW => ?_)
  have hB0 : Blk W0 w.heap.size 81 (bagA (.slice none 0 0)) := by rw [hW]; exact Blk.new _ _ _
  have hb0 : Below w.heap.size w W0 := by rw [hW]; go_grown
  clear hW
  refine (putBytes_0 w.heap.size g0 n0 k0 W0 hB0).mono ?_
  rintro e w1 ⟨⟨v1, rfl⟩, L1, C1, hL1, hP1, hB1, hb1⟩
  replace hb1 := hb0.trans hb1
  have d1 := (hb1.cell (p := ⟨A, 1, none⟩) hA).trans c1
  clear hB0 hb0 c0 c1
  go_wp2_with fail
  rw [rounds_succ]
  go_wp2_with fail
  refine (putBytes_1 w.heap.size g1 n1 k1 L1 C1 _ w1 hB1 hL1 hP1).mono ?_
  rintro e w2 ⟨⟨v2, rfl⟩, L2, C2, hL2, hP2, hB2, hb2⟩
  have hf := hap.out w2 L2 C2 hL2 hB2 hP2 (hb1.trans hb2)
  clear hP2 hB2 hb2 hb1 hB1 hP1 d1 hap
  replace hf := Lib.hid hf
  go_wp2_with fail
  rw [rounds_succ]
  go_wp2_with fail
  refine hf.out.mono ?_
  rintro e w3 ⟨rfl, hR⟩
  go_wp2
  exact hR
theorem RowB.under {w w' : World} {g n c B : Nat} {f : Nat → Int} (h : RowB w g n c f) (hg : g < B) (hb : Below B w w') : RowB w' g n c f := by
  obtain ⟨cur, h1, h2⟩ := h
  exact ⟨cur, (hb.block g hg).trans h1, h2⟩
theorem apartBytes_c (B A CA g0 n0 k0 g1 n1 k1 : Nat) (f0 f1 : Nat → Int) (w : World) (hA : A < w.heap.size) (c0 : w.cell? ⟨A, 0, none⟩ = some (.slice (some ⟨g0, 0, none⟩) n0 k0)) (c1 : w.cell? ⟨A, 1, none⟩ = some (.slice (some ⟨g1, 0, none⟩) n1 k1))
    (hR0 : RowB w g0 n0 k0 f0) (hR1 : RowB w g1 n1 k1 f1) (hne : g0 ≠ g1) (hl0 : B ≤ g0) (hl1 : B ≤ g1) (hn0 : n0 ≤ 100000) (hn1 : n1 ≤ 100000) :
    Calls Tryz.prog 13 #[.slice (some ⟨A, 0, none⟩) 2 CA] w fun e w' => e = .returned (.bool true) ∧ Below B w w' := by
  have hlt0 := hR0.lt
  have hlt1 := hR1.lt
  refine apartBytes_g A CA g0 n0 k0 g1 n1 k1 w _ hA c0 c1 fun w' L C hL hB hP hb => ?_
  have hbB : Below B w w' := hb.mono (by omega)
  refine (apart_c B w.heap.size L C (fun k => if k = 0 then g0 else g1) (fun k => if k = 0 then n0 else n1) (fun k => if k = 0 then k0 else k1) (fun k => if k = 0 then f0 else f1) w' hB hP (hR0.under hlt0 hb) (hR1.under hlt1 hb) ?_ (fun k _ => ?_) (by omega)).mono fun e w'' ⟨h1, h2⟩ => ⟨h1, h1, hbB.trans h2⟩
  · refine ⟨fun j k hj hk e => ?_, fun k _ => ?_, fun k _ => ?_, fun k _ => ?_, by omega⟩
    · obtain ⟨rfl, rfl⟩ | ⟨rfl, rfl⟩ : (j = 0 ∧ k = 1) ∨ (j = 1 ∧ k = 0) := by omega
      · exact hne
      · exact fun h => hne h.symm
    · show (if k = 0 then g0 else g1) ≠ L
      split <;> omega
    · show B ≤ (if k = 0 then g0 else g1)
      split <;> omega
    · show (if k = 0 then n0 else n1) ≤ 100000
      split <;> omega
  · show (if k = 0 then g0 else g1) ≠ _
    split <;> omega
end Go.Proofs.YtjejibojcjfleaaGreat
