/- The walk of the reference's Over (buttressref08). -/
import Derived.Test.YtiimojhdpmkeoaaGreatPt
namespace Go.Proofs.YtiimojhdpmkeoaaGreat
open Go.RowKit
def overR (k : ByteArray) (cl sq : Int) (n1 : Nat) (ds : List Int) (gone : Bool) (n2 : Nat) (kb : ByteArray) (clb sqb : Int) (nb1 : Nat) (dsb : List Int) (goneb : Bool) (nb2 : Nat) : Bool := shB k.size cl sq n1 ds gone n2 && (shB kb.size clb sqb nb1 dsb goneb nb2 && (decide (k.toList = kb.toList) && hasV n1 (dD ds) clb sqb))
set_option maxRecDepth 20000 in
set_option maxHeartbeats 4000000 in
theorem rover_c (k : ByteArray) (cl sq : Int) (p1 : Option Addr) (n1 c1 : Nat) (gone : Bool) (p2 : Option Addr) (n2 c2 : Nat) (p3 : Option Addr) (n3 c3 : Nat) (kb : ByteArray) (clb sqb : Int) (pb1 : Option Addr) (nb1 cb1 : Nat) (goneb : Bool) (pb2 : Option Addr) (nb2 cb2 : Nat) (pb3 : Option Addr) (nb3 cb3 : Nat) (ds dsb : List Int) (hn1 : n1 ≤ 400000) (hnb1 : nb1 ≤ 400000) (w : World) (hD : DotsL w p1 n1 ds) (hDb : DotsL w pb1 nb1 dsb) :
    Calls Tryz.prog 15 #[.agg #[.string k, .int .i64 cl, .int .i64 sq, .slice p1 n1 c1, .bool gone, .slice p2 n2 c2, .slice p3 n3 c3], .agg #[.string kb, .int .i64 clb, .int .i64 sqb, .slice pb1 nb1 cb1, .bool goneb, .slice pb2 nb2 cb2, .slice pb3 nb3 cb3]] w fun e w' => e = .returned (.bool (overR k cl sq n1 ds gone n2 kb clb sqb nb1 dsb goneb nb2)) ∧ Below w.heap.size w w' := by
  have ha := fun w' hb => rshape_c k cl sq p1 n1 c1 gone p2 n2 c2 p3 n3 c3 ds (by omega) w' (hD.below (w := w) (w' := w') hb)
  have hbb := fun w' hb => rshape_c kb clb sqb pb1 nb1 cb1 goneb pb2 nb2 cb2 pb3 nb3 cb3 dsb (by omega) w' (hDb.below (w := w) (w' := w') hb)
  have hh := fun w' hb => rhas_c p1 n1 c1 (dD ds) clb sqb (by omega) w' (hD.2.below (w := w) (w' := w') hb)
  rw [hasR_eq] at hh
  replace ha := Lib.hid ha
  replace hbb := Lib.hid hbb
  replace hh := Lib.hid hh
  clear hD hDb
  obtain ⟨E, hE⟩ : ∃ E, E = overR k cl sq n1 ds gone n2 kb clb sqb nb1 dsb goneb nb2 := ⟨_, rfl⟩
  rw [← hE]
  unfold overR at hE
  replace hE := Lib.hid hE
  go_enter Tryz.func15, Tryz.ntmps15
  go_wp2_with fail
  refine calls_at (fun W0 hW => ?_)
  have hA : Blk W0 w.heap.size 25 #[.string k, .int .i64 cl, .int .i64 sq, .slice p1 n1 c1, .bool gone, .slice p2 n2 c2, .slice p3 n3 c3] := by rw [hW]; exact (Blk.new _ _ _).alloc _
  have hB : Blk W0 (w.heap.size + 1) 25 #[.string kb, .int .i64 clb, .int .i64 sqb, .slice pb1 nb1 cb1, .bool goneb, .slice pb2 nb2 cb2, .slice pb3 nb3 cb3] := by rw [hW]; exact blk_at (by simp) (Blk.new _ _ _)
  have hb0 : Below w.heap.size w W0 := by rw [hW]; go_grown
  clear hW
  refine (ha.out _ hb0).mono ?_
  rintro e w1 ⟨rfl, hb⟩
  replace hA := hA.below hb
  replace hB := hB.below hb
  replace hb0 := hb0.trans (hb.mono hb0.size)
  clear hb ha
  cases hK : shB k.size cl sq n1 ds gone n2
  · rw [hK, Bool.false_and] at hE
    clear hK
    go_wp2
    go_returns
    exact ⟨by rw [hE.out]; rfl, hb0⟩
  rw [hK, Bool.true_and] at hE
  clear hK
  obtain ⟨z0, z1, z2, z3, z4, z5, z6⟩ := blk7 hB
  go_wp2_with fail
  clear z0 z1 z2 z3 z4 z5 z6
  refine (hbb.out _ hb0).mono ?_
  rintro e w2 ⟨rfl, hb⟩
  replace hA := hA.below hb
  replace hB := hB.below hb
  replace hb0 := hb0.trans (hb.mono hb0.size)
  clear hb hbb
  cases hK : shB kb.size clb sqb nb1 dsb goneb nb2
  · rw [hK, Bool.false_and] at hE
    clear hK
    go_wp2
    go_returns
    exact ⟨by rw [hE.out]; rfl, hb0⟩
  rw [hK, Bool.true_and] at hE
  clear hK
  obtain ⟨y0, y1, y2, y3, y4, y5, y6⟩ := blk7 hA
  obtain ⟨z0, z1, z2, z3, z4, z5, z6⟩ := blk7 hB
  by_cases hk : k.toList = kb.toList
  · rw [decide_eq_true hk, Bool.true_and] at hE
    have hkk : (k.toList == kb.toList) = true := by rw [hk]; exact beq_self_eq_true _
    clear hk
    go_wp2_with fail
    clear y0 y1 y2 y3 y4 y5 y6 z0 z1 z2 z3 z4 z5 z6
    refine (hh.out _ hb0).mono ?_
    rintro e w3 ⟨rfl, hb⟩
    replace hb0 := hb0.trans (hb.mono hb0.size)
    clear hb hh hA hB
    generalize hasV n1 (dD ds) clb sqb = z at *
    go_wp2
    go_returns
    exact ⟨by rw [hE.out]; rfl, hb0⟩
  · rw [decide_eq_false hk, Bool.false_and] at hE
    have hkk : (k.toList == kb.toList) = false := by simpa using hk
    clear hk
    go_wp2
    go_returns
    exact ⟨by rw [hE.out]; rfl, hb0⟩
end Go.Proofs.YtiimojhdpmkeoaaGreat
