/- The walk of LentRecord. -/
import Derived.Test.YtiimojhdpmkeoaaGreatJi
import Derived.Test.YtiimojhdpmkeoaaGreatLc
namespace Go.Proofs.YtiimojhdpmkeoaaGreat
open Go.RowKit
theorem own_bytes {w : World} {B m cc : Nat} {q : Option Addr} {xs : List Int} (h : w.ownsRow B 5 1 (.slice q m cc) m (bL xs)) : BytesL w q xs := by
  have hl : m = xs.length := by have := h.1; rw [bL_len] at this; omega
  rcases h.2 with ⟨e, h0⟩ | ⟨g, cap, cur, e, h1, h2, h3, h4, h5, h6⟩
  · exact fun hp => by omega
  · injection e with e1 _ _
    subst e1
    exact fun _ => ⟨g, 0, rfl, (Array.getElem?_eq_some_iff.1 h2).1, fun j hj => by
      rw [Nat.zero_add, h.cellAt j (by omega)]
      simp [bL, hj]⟩
/-- a record is lent: marks behind each of its rows -/
def PostLR (k : ByteArray) (cl sq : Int) (n1 : Nat) (gone : Bool) (ds vs ss : List Int) (w : World) (e : Ending) (w' : World) : Prop := ∃ g1 d1 g2 d2 g3 d3, e = .returned (.agg #[.string k, .int .i64 cl, .int .i64 sq, .slice (some ⟨g1, 0, none⟩) n1 d1, .bool gone, .slice (some ⟨g2, 0, none⟩) vs.length d2, .slice (some ⟨g3, 0, none⟩) ss.length d3]) ∧ n1 + 12 ≤ d1 ∧ vs.length + 12 ≤ d2 ∧ ss.length + 12 ≤ d3 ∧ DotsL w' (some ⟨g1, 0, none⟩) (n1 + 12) (ds ++ marksL 12) ∧ BytesL w' (some ⟨g2, 0, none⟩) (vs ++ marksB 12) ∧ BytesL w' (some ⟨g3, 0, none⟩) (ss ++ marksB 12) ∧ Below w.heap.size w w'
set_option maxRecDepth 20000 in
set_option maxHeartbeats 4000000 in
theorem lentRec_c (k : ByteArray) (cl sq : Int) (p1 : Option Addr) (n1 c1 : Nat) (gone : Bool) (p2 : Option Addr) (n2 c2 : Nat) (p3 : Option Addr) (n3 c3 : Nat) (ds vs ss : List Int) (hn1 : n1 ≤ 400000) (hn2 : n2 = vs.length) (hn2' : n2 ≤ 1000000) (hn3 : n3 = ss.length) (hn3' : n3 ≤ 1000000) (w : World) (hD : DotsL w p1 n1 ds) (hV : BytesL w p2 vs) (hS : BytesL w p3 ss) :
    Calls Tryz.prog 6 #[.agg #[.string k, .int .i64 cl, .int .i64 sq, .slice p1 n1 c1, .bool gone, .slice p2 n2 c2, .slice p3 n3 c3]] w (PostLR k cl sq n1 gone ds vs ss w) := by
  have cd := fun w' hb => lentDots_c p1 n1 c1 ds (by omega) w' (hD.below (w := w) (w' := w') hb)
  have cv := fun w' hb => lentBytes_o p2 n2 c2 vs hn2 hn2' w' (hV.below (w := w) (w' := w') hb)
  have csg := fun w' hb => lentBytes_o p3 n3 c3 ss hn3 hn3' w' (hS.below (w := w) (w' := w') hb)
  replace cd := Lib.hid cd
  replace cv := Lib.hid cv
  replace csg := Lib.hid csg
  clear hD hV hS hn2' hn3'
  replace hn2 := Lib.hid hn2
  replace hn3 := Lib.hid hn3
  go_enter Tryz.func6, Tryz.ntmps6
  go_wp2_with fail
  refine calls_at (fun W0 hW => ?_)
  have hA : Blk W0 w.heap.size 25 #[.string k, .int .i64 cl, .int .i64 sq, .slice p1 n1 c1, .bool gone, .slice p2 n2 c2, .slice p3 n3 c3] := by rw [hW]; exact (Blk.new _ _ _).alloc _
  have hR : ∃ cs, cs.size = 7 ∧ Blk W0 (w.heap.size + 1) 25 cs := by rw [hW]; exact ⟨_, rfl, blk_at (by simp) (Blk.new _ _ _)⟩
  have hb0 : Below w.heap.size w W0 := by rw [hW]; go_grown
  clear hW
  obtain ⟨cs, hcs, hR⟩ := hR
  obtain ⟨GA, hGA⟩ : ∃ GA, GA = w.heap.size := ⟨_, rfl⟩
  obtain ⟨GR, hGR⟩ : ∃ GR, GR = w.heap.size + 1 := ⟨_, rfl⟩
  rw [← hGR] at hR ⊢
  rw [← hGA] at hA ⊢
  have hAR : GR ≠ GA := by omega
  have hAR2 : GA < GR := by omega
  have hGw : w.heap.size ≤ GA := by omega
  have hGw2 : w.heap.size ≤ GR := by omega
  clear hGA hGR
  have hlt0 := hR.lt
  refine (cd.out _ hb0).mono ?_
  rintro e w1 ⟨g1, d1, rfl, hk1, ho1, hb⟩
  have hD1 := own_dots ho1
  have hf1 : ∀ ad, (some ⟨g1, 0, none⟩ : Option Addr) = some ad → W0.heap.size ≤ ad.block := fun ad e => by injection e with e; subst e; exact (ho1.lt g1 rfl).1
  clear ho1
  replace hA := hA.below hb
  replace hR := hR.below hb
  replace hb0 := hb0.trans (hb.mono hb0.size)
  clear hb
  replace hf1 : ∀ ad, (some ⟨g1, 0, none⟩ : Option Addr) = some ad → GR < ad.block := fun ad e => Nat.lt_of_lt_of_le hlt0 (hf1 ad e)
  have hlt1 : GR < w1.heap.size := hR.lt
  have y3 := hA.cell 3
  simp only [List.getElem?_toArray, List.getElem?_cons_zero, List.getElem?_cons_succ] at y3
  have y5 := hA.cell 5
  simp only [List.getElem?_toArray, List.getElem?_cons_zero, List.getElem?_cons_succ] at y5
  have fA := fun j => hA.frozen j
  go_wp2_with fail
  clear y3 y5 fA
  refine calls_at (fun W1 hW => ?_)
  have hgW1 : w1.grownBy W1 (some GA) := by rw [hW]; exact grown_setCells GA [.slice (some ⟨g1, 0, none⟩) n1 d1] 3 w1
  replace hA : Blk W1 GA 25 #[.string k, .int .i64 cl, .int .i64 sq, .slice (some ⟨g1, 0, none⟩) n1 d1, .bool gone, .slice p2 n2 c2, .slice p3 n3 c3] := by rw [hW]; exact hA.set_ 3 (.slice (some ⟨g1, 0, none⟩) n1 d1)
  replace hR := hR.grown hgW1 (fun h => hAR (by injection h))
  replace hD1 := hD1.grown hgW1 (fun ad e h => by injection h with h; have := hf1 ad e; omega)
  replace hb0 := hb0.grown hgW1 hb0.size (fun k h => by injection h with h; omega)
  clear hW hgW1
  refine (cv.out _ hb0).mono ?_
  rintro e w2 ⟨g2, d2, rfl, hk2, ho2, hb⟩
  have hV2 := own_bytes ho2
  have hf2 : ∀ ad, (some ⟨g2, 0, none⟩ : Option Addr) = some ad → W1.heap.size ≤ ad.block := fun ad e => by injection e with e; subst e; exact (ho2.lt g2 rfl).1
  clear ho2
  replace hf2 : ∀ ad, (some ⟨g2, 0, none⟩ : Option Addr) = some ad → GR < ad.block := fun ad e => Nat.lt_of_lt_of_le (show GR < W1.heap.size from hR.lt) (hf2 ad e)
  replace hD1 := hD1.below hb
  replace hA := hA.below hb
  replace hR := hR.below hb
  replace hb0 := hb0.trans (hb.mono hb0.size)
  clear hb
  have y5 := hA.cell 5
  simp only [List.getElem?_toArray, List.getElem?_cons_zero, List.getElem?_cons_succ] at y5
  have y6 := hA.cell 6
  simp only [List.getElem?_toArray, List.getElem?_cons_zero, List.getElem?_cons_succ] at y6
  have fA := fun j => hA.frozen j
  have hlt2 := hR.lt
  replace hk2 := Lib.hid hk2
  go_wp2_with fail
  clear y5 y6 fA
  refine calls_at (fun W2 hW => ?_)
  have hgW2 : w2.grownBy W2 (some GA) := by rw [hW]; exact grown_setCells GA [.slice (some ⟨g2, 0, none⟩) n2 d2] 5 w2
  replace hA : Blk W2 GA 25 #[.string k, .int .i64 cl, .int .i64 sq, .slice (some ⟨g1, 0, none⟩) n1 d1, .bool gone, .slice (some ⟨g2, 0, none⟩) n2 d2, .slice p3 n3 c3] := by rw [hW]; exact hA.set_ 5 (.slice (some ⟨g2, 0, none⟩) n2 d2)
  replace hR := hR.grown hgW2 (fun h => hAR (by injection h))
  replace hD1 := hD1.grown hgW2 (fun ad e h => by injection h with h; have := hf1 ad e; omega)
  replace hV2 := hV2.grown hgW2 (fun ad e h => by injection h with h; have := hf2 ad e; omega)
  replace hb0 := hb0.grown hgW2 hb0.size (fun k h => by injection h with h; omega)
  clear hW hgW2
  refine (csg.out _ hb0).mono ?_
  rintro e w3 ⟨g3, d3, rfl, hk3, ho3, hb⟩
  have hS3 := own_bytes ho3
  have hf3 : ∀ ad, (some ⟨g3, 0, none⟩ : Option Addr) = some ad → W2.heap.size ≤ ad.block := fun ad e => by injection e with e; subst e; exact (ho3.lt g3 rfl).1
  clear ho3
  replace hf3 : ∀ ad, (some ⟨g3, 0, none⟩ : Option Addr) = some ad → GR < ad.block := fun ad e => Nat.lt_of_lt_of_le (show GR < W2.heap.size from hR.lt) (hf3 ad e)
  replace hD1 := hD1.below hb
  replace hV2 := hV2.below hb
  replace hA := hA.below hb
  replace hR := hR.below hb
  replace hb0 := hb0.trans (hb.mono hb0.size)
  clear hb
  obtain ⟨y0, y1, y2, y3, y4, y5, y6⟩ := blk7 hA
  have fA := fun j => hA.frozen j
  have hg3 := grown_setCells GA [.slice (some ⟨g3, 0, none⟩) n3 d3] 6 w3
  have hR' := hR.grown hg3 (fun h => hAR (by injection h))
  replace hD1 := hD1.grown hg3 (fun ad e h => by injection h with h; have := hf1 ad e; omega)
  replace hV2 := hV2.grown hg3 (fun ad e h => by injection h with h; have := hf2 ad e; omega)
  replace hS3 := hS3.grown hg3 (fun ad e h => by injection h with h; have := hf3 ad e; omega)
  replace hb0 := hb0.grown hg3 hb0.size (fun k h => by injection h with h; omega)
  clear hg3 hR
  replace hk3 := Lib.hid hk3
  replace hk1 := Lib.hid hk1
  replace hD1 := Lib.hid hD1
  replace hV2 := Lib.hid hV2
  replace hS3 := Lib.hid hS3
  go_wp2_with (refine stRec rfl rfl rfl rfl hR' hcs (by kernel_rfl) ?_; intro w4 hR4 hg4 hs4; replace hg4 := Lib.hid hg4; clear y0 y1 y2 y3 y4 y5 y6 fA)
  obtain ⟨y0, y1, y2, y3, y4, y5, y6⟩ := blk7 hR4
  have hb4 := hb0.grown (w' := w4) (row := some GR) hg4.out hb0.size (fun k h => by injection h with h; omega)
  have hD4 := hD1.out.grown (w' := w4) (row := some GR) hg4.out (fun ad e h => by injection h with h; have := hf1 ad e; omega)
  have hV4 := hV2.out.grown (w' := w4) (row := some GR) hg4.out (fun ad e h => by injection h with h; have := hf2 ad e; omega)
  have hS4 := hS3.out.grown (w' := w4) (row := some GR) hg4.out (fun ad e h => by injection h with h; have := hf3 ad e; omega)
  replace hD4 := Lib.hid hD4
  replace hV4 := Lib.hid hV4
  replace hS4 := Lib.hid hS4
  clear hD1 hV2 hS3 hg4 hs4 hf1 hf2 hf3
  exact retRec rfl rfl hR4 rfl ⟨g1, d1, g2, d2, g3, d3, by rw [← hn2.out, ← hn3.out], hk1.out, by rw [← hn2.out]; exact hk2.out, by rw [← hn3.out]; exact hk3.out, hD4.out, hV4.out, hS4.out, hb4⟩
end Go.Proofs.YtiimojhdpmkeoaaGreat
