/- The laid variables of the Edwards laws; arguments of arrays; a law that changes nothing. -/
import Derived.Test.YtigcobcpfmnhoaaDoorZd
import Derived.Below
import Derived.ChangeSame
import Derived.ProofKit
import Derived.Laws.IdiomArrays
import Derived.Test.YtigcobcpfmnhoaaDoorRows
import Derived.Test.YtigcobcpfmnhoaaDoorCards
import Derived.Test.YtigcobcpfmnhoaaDoorTie
import Derived.LaidMore
import Derived.ChangeSlices
import Derived.OpenShut
import Derived.Stop.Joined
import Derived.SevenTiedAt
namespace Go.Proofs.YtigcobcpfmnhoaaDoor
open Go.RowKit
end Go.Proofs.YtigcobcpfmnhoaaDoor

namespace Go.Proofs.YtigcobcpfmnhoaaDoor
open Go.RowKit Go.WideShapes Go.ChangeShapes
section
variable {H : Type} {enc : TypeId × Value → H} {P : Program}
theorem post_of_below {f : Func} {s : ChangeSpec} {apart fresh handsOn again : Bool} {W W' : World} {args : Array Value} {v : Value} {ds gs : List (DataW H)} {before pa pv : List MemPlace}
    (hW : DataW.Whole enc P f.params.toList s.vars apart W args.toList ds gs before)
    (hres : ∀ (b : Nat) (sp : Nat → Bool) (hd : Bool), DataW.TrodAll enc P W' b sp hd f.resultTypes.toList (v.resultList f.resultTypes.size) (s.fn H (ds ++ gs)).results [])
    (hargs : ∀ sp : Nat → Bool, (∀ p ∈ before, sp p.block = true) → DataW.TrodAll enc P W' 0 sp true f.params.toList args.toList (s.fn H (ds ++ gs)).args pa)
    (hvars : ∀ sp : Nat → Bool, (∀ p ∈ before, sp p.block = true) → DataW.TrodVars enc P W' sp s.vars (s.fn H (ds ++ gs)).vars pv)
    (hps : before = pa ++ pv) (hb : Below W.heap.size W W')
    (hok : ∀ (j : Nat) (t : TypeId) (r : Value), f.resultTypes[j]? = some t → (v.resultList f.resultTypes.size)[j]? = some r → Value.okWide P W' .any 0 t r) :
    s.post enc P f apart fresh handsOn again W args v W' := by
  have hlt : ∀ p ∈ before, p.block < W.heap.size := fun p hp => hW.lt p hp
  have hold : ∀ p ∈ before, (fun b => decide (b < W.heap.size)) p.block = true := fun p hp => by simpa using hlt p hp
  refine ⟨ds, gs, before, [], pa, pv, hW, hres _ _ _, hargs _ hold, hvars _ hold, World.keptBut_mono (fun p hp => ⟨hp, ?_⟩) (hb.frame (· ∈ before)), fun _ => ?_⟩
  · rw [hps, List.mem_append] at hp
    exact Or.inr hp
  obtain ⟨_, _, _, _, _, hz, hn⟩ := hW
  refine ⟨hok, _, _, ([] ++ pa) ++ pv, ⟨[] ++ pa, pv, trodAll_append (hargs _ (fun _ _ => rfl)) (hres _ _ _), hvars _ (fun _ _ => rfl), rfl, ?_, ?_⟩, ?_⟩
  · intro b off hp
    have hin : MemPlace.cell b off ∈ before := by rw [hps]; simpa using hp
    rw [hb.frozen (hlt _ hin)]
    exact hz b off hin
  · intro ha
    have := hn ha
    rw [hps] at this
    simpa using this
  intro p hp _
  rw [hps]
  simpa using hp
end
end Go.Proofs.YtigcobcpfmnhoaaDoor

namespace Go.Proofs.YtigcobcpfmnhoaaDoor
open Go.ChangeShapes Go.WideShapes Go.ChangeAt Go.RowKit
section
variable {H : Type} {enc : TypeId × Value → H} {P : Program} {w : World} {base : Nat} {spare : Nat → Bool} {held : Bool}
theorem trod_array5 {t e : TypeId} {fuel : Nat} {cs : List Value} {x : DataW H × List MemPlace} (ht : P.underlying t = some (.array 5 e)) (hce : P.cellsOf e = 1) (hct : P.cellsOf t = 5)
    (h : DataW.trod enc P w base spare held fuel t cs = some x) : ∃ c0 c1 c2 c3 c4, cs = [c0, c1, c2, c3, c4] ∧
    ∃ y0 y1 y2 y3 y4 n, x = (.agg [y0.1, y1.1, y2.1, y3.1, y4.1], y0.2 ++ (y1.2 ++ (y2.2 ++ (y3.2 ++ y4.2)))) ∧ DataW.trod enc P w base spare held n e [c0] = some y0 ∧ DataW.trod enc P w base spare held n e [c1] = some y1 ∧ DataW.trod enc P w base spare held n e [c2] = some y2 ∧ DataW.trod enc P w base spare held n e [c3] = some y3 ∧ DataW.trod enc P w base spare held n e [c4] = some y4 := by
  cases fuel with
  | zero => simp [DataW.trod] at h
  | succ n =>
    unfold DataW.trod at h
    rw [ht] at h
    have r5 : List.range 5 = [0, 1, 2, 3, 4] := rfl
    simp [r5, hce, hct] at h
    obtain ⟨hl, h⟩ := h
    match cs, hl, h with
    | [c0, c1, c2, c3, c4], _, h =>
      refine ⟨c0, c1, c2, c3, c4, rfl, ?_⟩
      simp at h
      cases h0 : DataW.trod enc P w base spare held n e [c0] with
      | none => simp [h0] at h
      | some y0 =>
        cases h1 : DataW.trod enc P w base spare held n e [c1] with
        | none => simp [h0, h1] at h
        | some y1 =>
          cases h2 : DataW.trod enc P w base spare held n e [c2] with
          | none => simp [h0, h1, h2] at h
          | some y2 =>
            cases h3 : DataW.trod enc P w base spare held n e [c3] with
            | none => simp [h0, h1, h2, h3] at h
            | some y3 =>
              cases h4 : DataW.trod enc P w base spare held n e [c4] with
              | none => simp [h0, h1, h2, h3, h4] at h
              | some y4 =>
                simp [h0, h1, h2, h3, h4] at h
                exact ⟨y0, y1, y2, y3, y4, n, h.symm, h0, h1, h2, h3, h4⟩
end
end Go.Proofs.YtigcobcpfmnhoaaDoor

namespace Go.Proofs.YtigcobcpfmnhoaaDoor
open Go.ChangeShapes Go.WideShapes Go.ChangeAt Go.WideMaps Go.WideElems Go.RowKit

theorem own_ : ownKnob Tryd.prog.godebug = none := by kernel_rfl
theorem u8_cells : Tryd.prog.cellsOf 5 = 1 := by kernel_rfl
theorem u8_under : Tryd.prog.underlying 5 = some (.int .u8) := by kernel_rfl
theorem bool_under : Tryd.prog.underlying 4 = some .bool := by kernel_rfl
def laidE : List (String × DataW Unit) := [("buttress/edwards.curve", Rows.laid_buttress_edwards_curve), ("buttress/edwards.twice", Rows.laid_buttress_edwards_twice)]
theorem gCurve : Tryd.prog.globalNamed "buttress/edwards.curve" = some 0 := by kernel_rfl
theorem gTwice : Tryd.prog.globalNamed "buttress/edwards.twice" = some 1 := by kernel_rfl
theorem tCurve : (Tryd.prog.globals[0]?).map (·.type) = some 28 := by kernel_rfl
theorem tTwice : (Tryd.prog.globals[1]?).map (·.type) = some 28 := by kernel_rfl
theorem el_under : Tryd.prog.underlying 28 = some (.array 5 26) := by kernel_rfl
theorem u64_u : Tryd.prog.underlying 26 = some (.int .u64) := by kernel_rfl
theorem u64_cells : Tryd.prog.cellsOf 26 = 1 := by kernel_rfl
theorem el_cells : Tryd.prog.cellsOf 28 = 5 := by kernel_rfl
theorem door_met (os : Os) (args : Array Value) : laidMetH Tryd.prog laidE ((World.doorLaid Tryd.prog 400 os).forCall (fun _ _ => 0) ⟨#[], args, []⟩).memory :=
  laidMetH_of_parts3 (fuel := 8) (laidMet_of_run' 8 (by kernel_rfl) (by kernel_rfl)) (by kernel_rfl) (by kernel_rfl)
/-- what the two variables hold -/
theorem of_laid {W : World} (h : laidMetH Tryd.prog laidE W) : CvP W := by
  rw [MakeChecks.laidMetH_plain _ _ _ (by kernel_rfl)] at h
  obtain ⟨ps, ⟨g0, t0, cs0, f0, p0, q0, hg0, ht0, hv0, hd0, ⟨g1, t1, cs1, f1, p1, q1, hg1, ht1, hv1, hd1, _, _⟩, _⟩, _, _⟩ := h
  obtain rfl := Option.some.inj (gCurve.symm.trans hg0)
  obtain rfl := Option.some.inj (gTwice.symm.trans hg1)
  obtain rfl := Option.some.inj (tCurve.symm.trans ht0)
  obtain rfl := Option.some.inj (tTwice.symm.trans ht1)
  obtain ⟨a0, a1, a2, a3, a4, ha, y0, y1, y2, y3, y4, n, hx, h0, h1, h2, h3, h4⟩ := trod_array5 el_under u64_cells el_cells hd0
  obtain ⟨b0, b1, b2, b3, b4, hb, z0, z1, z2, z3, z4, m, hz, k0, k1, k2, k3, k4⟩ := trod_array5 el_under u64_cells el_cells hd1
  obtain ⟨i0, e0, rfl, _⟩ := DataW.trod_int u64_u h0
  obtain ⟨i1, e1, rfl, _⟩ := DataW.trod_int u64_u h1
  obtain ⟨i2, e2, rfl, _⟩ := DataW.trod_int u64_u h2
  obtain ⟨i3, e3, rfl, _⟩ := DataW.trod_int u64_u h3
  obtain ⟨i4, e4, rfl, _⟩ := DataW.trod_int u64_u h4
  obtain ⟨j0, l0, rfl, _⟩ := DataW.trod_int u64_u k0
  obtain ⟨j1, l1, rfl, _⟩ := DataW.trod_int u64_u k1
  obtain ⟨j2, l2, rfl, _⟩ := DataW.trod_int u64_u k2
  obtain ⟨j3, l3, rfl, _⟩ := DataW.trod_int u64_u k3
  obtain ⟨j4, l4, rfl, _⟩ := DataW.trod_int u64_u k4
  simp [Rows.laid_buttress_edwards_curve] at hx
  simp [Rows.laid_buttress_edwards_twice] at hz
  simp at e0 e1 e2 e3 e4 l0 l1 l2 l3 l4
  obtain ⟨⟨rfl, rfl, rfl, rfl, rfl⟩, _⟩ := hx
  obtain ⟨⟨rfl, rfl, rfl, rfl, rfl⟩, _⟩ := hz
  subst e0 e1 e2 e3 e4 l0 l1 l2 l3 l4
  have c0 := fun i => World.var?_cell hg0 hv0 i
  have c1 := fun i => World.var?_cell hg1 hv1 i
  obtain ⟨q0⟩ := cs0
  obtain ⟨q1⟩ := cs1
  simp only at ha hb
  subst ha hb
  refine ⟨?_, fun i _ => c0 i, fun i _ => c1 i⟩
  have := c1 0
  rcases Nat.lt_or_ge 1 W.heap.size with h | h
  · exact h
  simp only [World.cell?, Array.getElem?_eq_none h] at this
  cases this
end Go.Proofs.YtigcobcpfmnhoaaDoor
