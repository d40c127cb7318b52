/- The walk of awake. -/
import Derived.Test.YtiimojhdpmkeoaaGreatJg
import Derived.Lib.SlBytesConst
namespace Go.Proofs.YtiimojhdpmkeoaaGreat
open Go.RowKit
theorem aw_txt : (txtL ⟨#[97]⟩ 1 1 0 [] false [120]).length = 44 ∧ (txtL ⟨#[97]⟩ 1 1 0 [] false [120]).getD 0 0 = 1 := by decide +kernel
theorem aw_own : txtL ⟨#[97]⟩ 1 1 1 [1, 1] false [120] = [] := by decide +kernel
theorem aw_right : rightR (ByteArray.mk #[97]).size 1 1 0 [] false 1 0 = false := by decide +kernel
theorem dots0 (w : World) : DotsL w none 0 [] := ⟨rfl, fun h => by omega⟩
set_option maxRecDepth 20000 in
set_option maxHeartbeats 8000000 in
theorem awake_c (w : World) : Calls Tryz.prog 4 #[] w fun e w' => e = .returned (.bool true) ∧ Below w.heap.size w w' := by
  obtain ⟨T1, hT1⟩ : ∃ T, T = txtL ⟨#[97]⟩ 1 1 0 [] false [120] := ⟨_, rfl⟩
  have hl := aw_txt
  rw [← hT1] at hl
  have ct1 := fun p2 c2 w' hb => recText_c ⟨#[97]⟩ 1 1 none 0 0 false p2 1 c2 none 0 0 [] [120] (by decide) rfl w' (dots0 w') hb
  rw [← hT1] at ct1
  have ct2 := fun p1 p2 c2 w' hd hb => recText_c ⟨#[97]⟩ 1 1 p1 1 1 false p2 1 c2 none 0 0 [1, 1] [120] (by decide) rfl w' hd hb
  rw [aw_own] at ct2
  have cr := fun p2 c2 w' => recRight_c ⟨#[97]⟩ 1 1 none 0 0 false p2 1 c2 none 0 0 [] (by decide) w' (dots0 w')
  rw [aw_right] at cr
  replace ct1 := Lib.hid ct1
  replace ct2 := Lib.hid ct2
  replace cr := Lib.hid cr
  replace hl := Lib.hid hl
  clear hT1
  have kc := fun (w : World) (C : Array Value) (n c : Nat) => Lib.run_convert_bytes_const (P := Tryz.prog) w 23 5 C n c bs_under u8_under
  go_enter Tryz.func4, Tryz.ntmps4
  go_wp2_with fail
  clear kc
  refine calls_at (fun W0 hW => ?_)
  have hx : BytesL W0 (some ⟨w.heap.size, 0, none⟩) [120] := by
    rw [hW]
    refine fun _ => ⟨_, _, rfl, by simp; omega, fun j hj => ?_⟩
    have : j = 0 := by simpa using hj
    subst this
    exact cell_of_row _ _ _ #[.int .u8 120] 5 (1, 2) ((Below.heap_alloc _ _ _ (by simp)).trans (heap_alloc_new w _))
  have hR : Blk W0 (w.heap.size + 1) 25 #[.string ⟨#[97]⟩, .int .i64 1, .int .i64 1, .slice none 0 0, .bool false, .slice (some ⟨w.heap.size, 0, none⟩) 1 1, .slice none 0 0] := by rw [hW]; exact blk_at (by simp) (Blk.new _ _ _)
  have hb0 : Below w.heap.size w W0 := by rw [hW]; go_grown
  clear hW
  refine (ct1.out _ _ _ hx).mono ?_
  rintro e w1 ⟨q, n, c, rfl, hn, hB, hb, -⟩
  obtain rfl : n = 44 := by rw [hn, hl.out.1]
  obtain ⟨g, o, rfl, hg, hc⟩ := hB (by rw [← hn]; decide)
  have c0 := hc 0 (by rw [← hn]; decide)
  simp only [hl.out.2, Nat.add_zero] at c0
  replace hx := hx.below hb
  replace hR := hR.below hb
  replace hb0 := hb0.trans (hb.mono hb0.size)
  clear hb hc hB hn ct1 hl
  obtain ⟨y0, y1, y2, y3, y4, y5, y6⟩ := blk7 hR
  go_wp2_with fail
  clear y0 y1 y2 y3 y4 y5 y6 c0
  refine calls_at (fun W1 hW => ?_)
  have hbw : Below w1.heap.size w1 W1 := by rw [hW]; go_grown
  have hd : DotsL W1 (some ⟨w1.heap.size + 1, 0, none⟩) 1 [1, 1] := by
    have hB : Blk W1 (w1.heap.size + 1) 38 #[.int .i64 1, .int .i64 1] := by rw [hW]; exact blk_at (by simp) (Blk.new _ _ _)
    refine ⟨rfl, fun _ => ⟨_, _, rfl, hB.lt, fun j hj => ?_⟩⟩
    have : j = 0 ∨ j = 1 := by omega
    rcases this with rfl | rfl
    · exact hB.cell 0
    · exact hB.cell 1
  clear hW
  replace hx := hx.below hbw
  replace hR := hR.below hbw
  replace hb0 := hb0.trans (hbw.mono hb0.size)
  refine (ct2.out _ _ _ _ hd hx).mono ?_
  rintro e w2 ⟨q2, n2, c2, rfl, hn2, -, hb, -⟩
  obtain rfl : n2 = 0 := hn2
  replace hR := hR.below hb
  replace hb0 := hb0.trans (hb.mono hb0.size)
  clear hb hbw hd hx ct2
  obtain ⟨y0, y1, y2, y3, y4, y5, y6⟩ := blk7 hR
  go_wp2_with fail
  clear y0 y1 y2 y3 y4 y5 y6
  refine (cr.out _ _ _).mono ?_
  rintro e w3 ⟨rfl, hb⟩
  go_wp2
  go_returns
  exact ⟨rfl, hb0.trans (hb.mono hb0.size)⟩
end Go.Proofs.YtiimojhdpmkeoaaGreat
