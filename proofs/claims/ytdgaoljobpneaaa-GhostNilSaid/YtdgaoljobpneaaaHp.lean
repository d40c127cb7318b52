/- The walk of the law GhostNil. -/
import Derived.Test.YtdgaoljobpneaaaHo
namespace Go.Proofs.Ytdgaoljobpneaaa
open Go.RowKit
theorem blk2p {w : World} {g : Nat} {t : TypeId} {a b : Value} (h : Blk w g t #[a, b]) : w.cell? ⟨g, 0, none⟩ = some a ∧ w.cell? ⟨g, 1, none⟩ = some b := ⟨h.cell 0, h.cell 1⟩
set_option maxRecDepth 20000 in
set_option maxHeartbeats 16000000 in
theorem ghostNil_c (x0 x1 x2 x3 x4 x5 x6 y0 y1 y2 y3 y4 : Value) (w : World) :
    Calls Try.prog 3 #[.agg #[x0, x1, x2, x3, x4, x5, x6], .agg #[y0, y1, y2, y3, y4]] w fun e w' => e = .returned (.bool true) ∧ Below w.heap.size w w' := by
  go_enter Try.func3, Try.ntmps3
  go_wp2
  refine at_world (fun W0 hW => ?_)
  have hR : Blk W0 w.heap.size 25 #[x0, x1, x2, x3, x4, x5, x6] := by rw [hW]; exact (((Blk.new _ _ _).alloc _).alloc _).alloc _
  have hX : Blk W0 (w.heap.size + 1) 27 #[y0, y1, y2, y3, y4] := by rw [hW]; exact ((blk_at (by simp) (Blk.new _ _ _)).alloc _).alloc _
  have hZ : ∃ cs, Blk W0 (w.heap.size + 2) 45 cs ∧ cs[1]? = some (.map none) := by rw [hW]; exact ⟨_, (blk_at (by simp) (Blk.new _ _ _)).alloc _, rfl⟩
  have hL : Blk W0 (w.heap.size + 3) 28 #[.pointer none, .pointer (some ⟨w.heap.size + 2, 0, none⟩)] := by rw [hW]; exact blk_at (by simp) (Blk.new _ _ _)
  have hb0 : Below w.heap.size w W0 := by rw [hW]; go_grown
  clear hW
  obtain ⟨cs, hZ, hcs⟩ := hZ
  have hgn : ∀ wr, Below W0.heap.size W0 wr → ∀ k : Nat, k < 2 → ∃ gv, wr.cell? ⟨w.heap.size + 3, k, none⟩ = some gv ∧ GNone wr gv := fun wr hb k hk => by
    have : k = 0 ∨ k = 1 := by omega
    rcases this with rfl | rfl
    · exact ⟨_, (hL.below hb).cell 0, .inl rfl⟩
    · exact ⟨_, (hL.below hb).cell 1, .inr ⟨_, cs, rfl, hZ.below hb, hcs⟩⟩
  replace hgn := Lib.hid hgn
  clear hL hZ hcs
  generalize w.heap.size + 3 = gl at *
  go_loopw [6] (fun i wr => ∃ k : Nat, k ≤ 2 ∧ i = .int .i64 k ∧ Below W0.heap.size W0 wr) (fun i _ => (2 - intOf i).toNat)
  case atStart => exact ⟨0, by omega, rfl, Below.refl _ _⟩
  case round =>
    obtain ⟨k, hk, hi, hb⟩ := hrel
    subst hi
    by_cases he : k = 2
    · subst he
      have hb2 := hb0.trans (hb.mono hb0.size)
      go_wp2_with fail
      refine (awake28_c _).mono ?_
      rintro e w1 ⟨rfl, hb1⟩
      have hb3 := hb2.trans (hb1.mono hb2.size)
      go_wp2
      go_returns
      exact ⟨rfl, hb3⟩
    · have hk0 : (0 : Int) ≤ (k : Int) := by omega
      have hk1 : (k : Int) < 2 := by omega
      have hk2 : k < 2 := by omega
      obtain ⟨gv, hc, hg⟩ := hgn.out wr hb k hk2
      obtain ⟨r0, r1, r2, r3, r4, r5, r6⟩ := blk7 (hR.below hb)
      replace hg := Lib.hid hg
      clear he hk2
      go_wp2_with fail
      clear r0 r1 r2 r3 r4 r5 r6 hc
      refine calls_at (fun W1 hW => ?_)
      have hb1 : Below wr.heap.size wr W1 := by rw [hW]; go_grown
      clear hW
      refine (gWrote_no gv _ _ _ _ (hg.out.below hb1)).mono ?_
      rintro e w2 ⟨rfl, hb2⟩
      have hb3 := hb.trans ((hb1.trans (hb2.mono hb1.size)).mono hb.size)
      replace hg := Lib.hid ((hg.out.below hb1).below hb2)
      clear hb1 hb2 hb
      obtain ⟨r0, r1, r2, r3, r4⟩ := blk5v (hX.below hb3)
      go_wp2_with fail
      clear r0 r1 r2 r3 r4
      refine calls_at (fun W1 hW => ?_)
      have hb1 : Below w2.heap.size w2 W1 := by rw [hW]; go_grown
      clear hW
      refine (gIssued_no gv _ _ _ _ (hg.out.below hb1)).mono ?_
      rintro e w4 ⟨rfl, hb2⟩
      replace hb3 := hb3.trans ((hb1.trans (hb2.mono hb1.size)).mono hb3.size)
      replace hg := Lib.hid ((hg.out.below hb1).below hb2)
      clear hb1 hb2
      obtain ⟨r0, r1, r2, r3, r4, r5, r6⟩ := blk7 (hR.below hb3)
      go_wp2_with fail
      clear r0 r1 r2 r3 r4 r5 r6
      refine (gHas_no gv _ _ _ _ _ _ _ _ hg.out).mono ?_
      rintro e w5 ⟨rfl, hb2⟩
      replace hb3 := hb3.trans (hb2.mono hb3.size)
      replace hg := Lib.hid (hg.out.below hb2)
      clear hb2
      obtain ⟨r0, r1, r2, r3, r4⟩ := blk5v (hX.below hb3)
      go_wp2_with fail
      clear r0 r1 r2 r3 r4
      refine (gHasRoot_no gv _ _ _ _ _ _ hg.out).mono ?_
      rintro e w6 ⟨rfl, hb2⟩
      replace hb3 := hb3.trans (hb2.mono hb3.size)
      replace hg := Lib.hid (hg.out.below hb2)
      clear hb2
      go_wp2_with fail
      refine (gRecords_no gv _ hg.out).mono ?_
      rintro e w7 ⟨rfl, hb2⟩
      replace hb3 := hb3.trans (hb2.mono hb3.size)
      replace hg := Lib.hid (hg.out.below hb2)
      clear hb2
      go_wp2_with fail
      refine (gRoots_no gv _ hg.out).mono ?_
      rintro e w8 ⟨rfl, hb2⟩
      replace hb3 := hb3.trans (hb2.mono hb3.size)
      clear hb2 hg
      go_wp2
      exact ⟨⟨k + 1, by omega, rfl, hb3⟩, by simp [intOf]; omega⟩
end Go.Proofs.Ytdgaoljobpneaaa
