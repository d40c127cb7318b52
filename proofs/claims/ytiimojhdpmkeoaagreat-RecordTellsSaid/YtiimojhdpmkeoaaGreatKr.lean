/- The walk of KeptRecord: what was lent is as it was. -/
import Derived.Test.YtiimojhdpmkeoaaGreatKb2
namespace Go.Proofs.YtiimojhdpmkeoaaGreat
open Go.RowKit
theorem eqL_self (xs : List Int) : eqL xs xs = true := decide_eq_true rfl
theorem getD_front (xs ys : List Int) (j : Nat) (h : j < xs.length) : (xs ++ ys).getD j 0 = xs.getD j 0 := by
  rw [List.getD_eq_getElem?_getD, List.getElem?_append_left h, List.getD_eq_getElem?_getD]
theorem BytesL.front {w : World} {p : Option Addr} {xs ys : List Int} (h : BytesL w p (xs ++ ys)) : BytesL w p xs := fun hm => by
  obtain ⟨g, o, e, hg, hc⟩ := h (by rw [List.length_append]; omega)
  exact ⟨g, o, e, hg, fun j hj => (hc j (by rw [List.length_append]; omega)).trans (congrArg (fun x : Int => some (Value.int .u8 x)) (getD_front xs ys j hj))⟩
theorem DotsL.front {w : World} {p : Option Addr} {n m : Nat} {xs ys : List Int} (hl : xs.length = 2 * n) (h : DotsL w p (n + m) (xs ++ ys)) : DotsL w p n xs := ⟨hl, fun hm => by
  obtain ⟨g, o, e, hg, hc⟩ := h.2 (by omega)
  exact ⟨g, o, e, hg, fun j hj => (hc j (by omega)).trans (congrArg (fun x : Int => some (Value.int .i64 x)) (getD_front xs ys j (by omega)))⟩⟩
theorem sameR_self (k : ByteArray) (cl sq : Int) (ds : List Int) (gone : Bool) (vs ss : List Int) : sameR k cl sq ds gone vs ss k cl sq ds gone vs ss = true := by
  unfold sameR
  rw [eqL_self, eqL_self, eqL_self, decide_eq_true rfl, decide_eq_true rfl, decide_eq_true rfl]
  cases gone <;> rfl
set_option maxRecDepth 20000 in
set_option maxHeartbeats 4000000 in
theorem keptRec_c (k : ByteArray) (cl sq : Int) (g1 g2 g3 n1 n2 n3 d1 d2 d3 : Nat) (gone : Bool) (p1 p2 p3 : Option Addr) (c1 c2 c3 : Nat) (ds vs ss : List Int) (hn1 : n1 ≤ 400000) (hn2 : n2 = vs.length) (hn2' : n2 ≤ 1000000) (hn3 : n3 = ss.length) (hn3' : n3 ≤ 1000000) (hd1 : n1 + 12 ≤ d1) (hd2 : n2 + 12 ≤ d2) (hd3 : n3 + 12 ≤ d3) (w : World)
    (hD : DotsL w p1 n1 ds) (hV : BytesL w p2 vs) (hS : BytesL w p3 ss) (hDm : DotsL w (some ⟨g1, 0, none⟩) (n1 + 12) (ds ++ marksL 12)) (hVm : BytesL w (some ⟨g2, 0, none⟩) (vs ++ marksB 12)) (hSm : BytesL w (some ⟨g3, 0, none⟩) (ss ++ marksB 12)) :
    Calls Tryz.prog 16 #[.agg #[.string k, .int .i64 cl, .int .i64 sq, .slice (some ⟨g1, 0, none⟩) n1 d1, .bool gone, .slice (some ⟨g2, 0, none⟩) n2 d2, .slice (some ⟨g3, 0, none⟩) n3 d3], .agg #[.string k, .int .i64 cl, .int .i64 sq, .slice p1 n1 c1, .bool gone, .slice p2 n2 c2, .slice p3 n3 c3]] w fun e w' => e = .returned (.bool true) ∧ Below w.heap.size w w' := by
  have cr := fun w' hb => sameRec_c k cl sq (some ⟨g1, 0, none⟩) n1 d1 gone (some ⟨g2, 0, none⟩) n2 d2 (some ⟨g3, 0, none⟩) n3 d3 k cl sq p1 n1 c1 gone p2 n2 c2 p3 n3 c3 ds vs ss ds vs ss hn1 hn1 hn2 hn2' hn3 hn3' hn2 hn2' hn3 hn3' w' ((hDm.front hD.1).below (w := w) (w' := w') hb) (hVm.front.below hb) (hSm.front.below hb) (hD.below hb) (hV.below hb) (hS.below hb)
  rw [sameR_self] at cr
  have cd := fun w' hb => keptDots_c g1 d1 p1 n1 c1 ds (by omega) hd1 w' (hDm.below (w := w) (w' := w') hb) (hD.below hb)
  have cv := fun w' hb => keptBytes_c g2 d2 p2 n2 c2 vs hn2 hn2' hd2 w' (hVm.below (w := w) (w' := w') hb) (hV.below hb)
  have csg := fun w' hb => keptBytes_c g3 d3 p3 n3 c3 ss hn3 hn3' hd3 w' (hSm.below (w := w) (w' := w') hb) (hS.below hb)
  replace cr := Lib.hid cr
  replace cd := Lib.hid cd
  replace cv := Lib.hid cv
  replace csg := Lib.hid csg
  clear hD hV hS hDm hVm hSm hn2 hn2' hn3 hn3' hn1 hd1 hd2 hd3
  go_enter Tryz.func16, Tryz.ntmps16
  go_wp2_with fail
  refine calls_at (fun W0 hW => ?_)
  have hA : Blk W0 w.heap.size 25 #[.string k, .int .i64 cl, .int .i64 sq, .slice (some ⟨g1, 0, none⟩) n1 d1, .bool gone, .slice (some ⟨g2, 0, none⟩) n2 d2, .slice (some ⟨g3, 0, none⟩) n3 d3] := by rw [hW]; exact (Blk.new _ _ _).alloc _
  have hR : Blk W0 (w.heap.size + 1) 25 #[.string k, .int .i64 cl, .int .i64 sq, .slice p1 n1 c1, .bool gone, .slice p2 n2 c2, .slice p3 n3 c3] := by rw [hW]; exact blk_at (by simp) (Blk.new _ _ _)
  have hb0 : Below w.heap.size w W0 := by rw [hW]; go_grown
  clear hW
  obtain ⟨GA, hGA⟩ : ∃ GA, GA = w.heap.size := ⟨_, rfl⟩
  obtain ⟨GR, hGR⟩ : ∃ GR, GR = w.heap.size + 1 := ⟨_, rfl⟩
  rw [← hGR] at hR ⊢
  rw [← hGA] at hA ⊢
  clear hGA hGR
  refine (cr.out _ hb0).mono ?_
  rintro e w1 ⟨rfl, hb⟩
  replace hA := hA.below hb
  replace hR := hR.below hb
  replace hb0 := hb0.trans (hb.mono hb0.size)
  clear hb
  obtain ⟨y0, y1, y2, y3, y4, y5, y6⟩ := blk7 hA
  obtain ⟨z0, z1, z2, z3, z4, z5, z6⟩ := blk7 hR
  go_wp2_with fail
  clear y0 y1 y2 y3 y4 y5 y6 z0 z1 z2 z3 z4 z5 z6
  refine (cd.out _ hb0).mono ?_
  rintro e w2 ⟨rfl, hb⟩
  replace hA := hA.below hb
  replace hR := hR.below hb
  replace hb0 := hb0.trans (hb.mono hb0.size)
  clear hb
  obtain ⟨y0, y1, y2, y3, y4, y5, y6⟩ := blk7 hA
  obtain ⟨z0, z1, z2, z3, z4, z5, z6⟩ := blk7 hR
  go_wp2_with fail
  clear y0 y1 y2 y3 y4 y5 y6 z0 z1 z2 z3 z4 z5 z6
  refine (cv.out _ hb0).mono ?_
  rintro e w3 ⟨rfl, hb⟩
  replace hA := hA.below hb
  replace hR := hR.below hb
  replace hb0 := hb0.trans (hb.mono hb0.size)
  clear hb
  obtain ⟨y0, y1, y2, y3, y4, y5, y6⟩ := blk7 hA
  obtain ⟨z0, z1, z2, z3, z4, z5, z6⟩ := blk7 hR
  go_wp2_with fail
  clear y0 y1 y2 y3 y4 y5 y6 z0 z1 z2 z3 z4 z5 z6
  refine (csg.out _ hb0).mono ?_
  rintro e w4 ⟨rfl, hb⟩
  replace hb0 := hb0.trans (hb.mono hb0.size)
  clear hb hA hR
  go_wp2_with fail
  go_returns
  exact ⟨rfl, hb0⟩
end Go.Proofs.YtiimojhdpmkeoaaGreat
