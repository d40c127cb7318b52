/- The laid variables of the Edwards laws; arguments of arrays; a law that changes nothing. EdwardsOn answers true at every input, and its arguments read as they did; its two package variables are tied to the program's text. -/
import Derived.Test.YtpaldgajkhmhbaaDoorZd
import Derived.Below
import Derived.ChangeSame
import Derived.ProofKit
import Derived.Laws.IdiomArrays
import Derived.Test.YtpaldgajkhmhbaaDoorRows
import Derived.Test.YtpaldgajkhmhbaaDoorCards
import Derived.Test.YtpaldgajkhmhbaaDoorTie
import Derived.LaidMore
import Derived.ChangeSlices
import Derived.OpenShut
import Derived.Stop.Joined
import Derived.SevenTiedAt
import Derived.Test.YtpaldgajkhmhbaaDoorWf
namespace Go.Proofs.YtpaldgajkhmhbaaDoor
open Go.RowKit
end Go.Proofs.YtpaldgajkhmhbaaDoor

namespace Go.Proofs.YtpaldgajkhmhbaaDoor
open Go.RowKit Go.WideShapes Go.ChangeShapes
section
variable {H : Type} {enc : TypeId × Value → H} {P : Program}
theorem post_of_below {f : Func} {s : ChangeSpec} {apart fresh handsOn again : Bool} {W W' : World} {args : Array Value} {v : Value} {ds gs : List (DataW H)} {before pa pv : List MemPlace}
    (hW : DataW.Whole enc P f.params.toList s.vars apart W args.toList ds gs before)
    (hres : ∀ (b : Nat) (sp : Nat → Bool) (hd : Bool), DataW.TrodAll enc P W' b sp hd f.resultTypes.toList (v.resultList f.resultTypes.size) (s.fn H (ds ++ gs)).results [])
    (hargs : ∀ sp : Nat → Bool, (∀ p ∈ before, sp p.block = true) → DataW.TrodAll enc P W' 0 sp true f.params.toList args.toList (s.fn H (ds ++ gs)).args pa)
    (hvars : ∀ sp : Nat → Bool, (∀ p ∈ before, sp p.block = true) → DataW.TrodVars enc P W' sp s.vars (s.fn H (ds ++ gs)).vars pv)
    (hps : before = pa ++ pv) (hb : Below W.heap.size W W')
    (hok : ∀ (j : Nat) (t : TypeId) (r : Value), f.resultTypes[j]? = some t → (v.resultList f.resultTypes.size)[j]? = some r → Value.okWide P W' .any 0 t r) :
    s.post enc P f apart fresh handsOn again W args v W' := by
  have hlt : ∀ p ∈ before, p.block < W.heap.size := fun p hp => hW.lt p hp
  have hold : ∀ p ∈ before, (fun b => decide (b < W.heap.size)) p.block = true := fun p hp => by simpa using hlt p hp
  refine ⟨ds, gs, before, [], pa, pv, hW, hres _ _ _, hargs _ hold, hvars _ hold, World.keptBut_mono (fun p hp => ⟨hp, ?_⟩) (hb.frame (· ∈ before)), fun _ => ?_⟩
  · rw [hps, List.mem_append] at hp
    exact Or.inr hp
  · obtain ⟨_, _, _, _, _, hz, hn⟩ := hW
    refine ⟨hok, _, _, ([] ++ pa) ++ pv, ⟨[] ++ pa, pv, trodAll_append (hargs _ (fun _ _ => rfl)) (hres _ _ _), hvars _ (fun _ _ => rfl), rfl, ?_, ?_⟩, ?_⟩
    · intro b off hp
      have hin : MemPlace.cell b off ∈ before := by rw [hps]; simpa using hp
      rw [hb.frozen (hlt _ hin)]
      exact hz b off hin
    · intro ha
      have := hn ha
      rw [hps] at this
      simpa using this
    · intro p hp _
      rw [hps]
      simpa using hp
end
end Go.Proofs.YtpaldgajkhmhbaaDoor

namespace Go.Proofs.YtpaldgajkhmhbaaDoor
open Go.ChangeShapes Go.WideShapes Go.ChangeAt Go.RowKit
section
variable {H : Type} {enc : TypeId × Value → H} {P : Program} {w : World} {base : Nat} {spare : Nat → Bool} {held : Bool}
theorem trod_array5 {t e : TypeId} {fuel : Nat} {cs : List Value} {x : DataW H × List MemPlace} (ht : P.underlying t = some (.array 5 e)) (hce : P.cellsOf e = 1) (hct : P.cellsOf t = 5)
    (h : DataW.trod enc P w base spare held fuel t cs = some x) : ∃ c0 c1 c2 c3 c4, cs = [c0, c1, c2, c3, c4] ∧
    ∃ y0 y1 y2 y3 y4 n, x = (.agg [y0.1, y1.1, y2.1, y3.1, y4.1], y0.2 ++ (y1.2 ++ (y2.2 ++ (y3.2 ++ y4.2)))) ∧ DataW.trod enc P w base spare held n e [c0] = some y0 ∧ DataW.trod enc P w base spare held n e [c1] = some y1 ∧ DataW.trod enc P w base spare held n e [c2] = some y2 ∧ DataW.trod enc P w base spare held n e [c3] = some y3 ∧ DataW.trod enc P w base spare held n e [c4] = some y4 := by
  cases fuel with
  | zero => simp [DataW.trod] at h
  | succ n =>
    unfold DataW.trod at h
    rw [ht] at h
    have r5 : List.range 5 = [0, 1, 2, 3, 4] := rfl
    simp [r5, hce, hct] at h
    obtain ⟨hl, h⟩ := h
    match cs, hl, h with
    | [c0, c1, c2, c3, c4], _, h =>
      refine ⟨c0, c1, c2, c3, c4, rfl, ?_⟩
      simp at h
      cases h0 : DataW.trod enc P w base spare held n e [c0] with
      | none => simp [h0] at h
      | some y0 =>
        cases h1 : DataW.trod enc P w base spare held n e [c1] with
        | none => simp [h0, h1] at h
        | some y1 =>
          cases h2 : DataW.trod enc P w base spare held n e [c2] with
          | none => simp [h0, h1, h2] at h
          | some y2 =>
            cases h3 : DataW.trod enc P w base spare held n e [c3] with
            | none => simp [h0, h1, h2, h3] at h
            | some y3 =>
              cases h4 : DataW.trod enc P w base spare held n e [c4] with
              | none => simp [h0, h1, h2, h3, h4] at h
              | some y4 =>
                simp [h0, h1, h2, h3, h4] at h
                exact ⟨y0, y1, y2, y3, y4, n, h.symm, h0, h1, h2, h3, h4⟩
theorem shut_array5 {t e : TypeId} {k : IntKind} (ht : P.underlying t = some (.array 5 e)) (he : P.underlying e = some (.int k)) (hce : P.cellsOf e = 1) (hct : P.cellsOf t = 5) {x0 x1 x2 x3 x4 : Int}
    (h0 : (Lit.int k x0).wf = true) (h1 : (Lit.int k x1).wf = true) (h2 : (Lit.int k x2).wf = true) (h3 : (Lit.int k x3).wf = true) (h4 : (Lit.int k x4).wf = true) :
    DataW.Trod enc P w base spare held t (.agg #[.int k x0, .int k x1, .int k x2, .int k x3, .int k x4]) (.agg [.lit (.int k x0), .lit (.int k x1), .lit (.int k x2), .lit (.int k x3), .lit (.int k x4)]) [] := by
  refine ⟨2, ?_⟩
  have r5 : List.range 5 = [0, 1, 2, 3, 4] := rfl
  have hs : ∀ x, (Lit.int k x).wf = true → DataW.trod enc P w base spare held 1 e [.int k x] = some (.lit (.int k x), []) := fun x hx => by simp [DataW.trod, he, hx]
  unfold DataW.trod
  rw [ht]
  simp [r5, hce, hct, Value.cells, hs _ h0, hs _ h1, hs _ h2, hs _ h3, hs _ h4]
/-- an array of five words among the arguments -/
theorem open_array5 {t e : TypeId} {k : IntKind} {v : Value} {d : DataW H} {ps : List MemPlace} (ht : P.underlying t = some (.array 5 e)) (he : P.underlying e = some (.int k)) (hce : P.cellsOf e = 1) (hct : P.cellsOf t = 5) {r : Reach} {b0 : Nat} (hval : Value.okWide P w r b0 t v) (hd : DataW.Trod enc P w base spare held t v d ps) :
    ∃ x0 x1 x2 x3 x4 : Int, v = .agg #[.int k x0, .int k x1, .int k x2, .int k x3, .int k x4] ∧ d = .agg [.lit (.int k x0), .lit (.int k x1), .lit (.int k x2), .lit (.int k x3), .lit (.int k x4)] ∧ ps = [] ∧
      (Lit.int k x0).wf = true ∧ (Lit.int k x1).wf = true ∧ (Lit.int k x2).wf = true ∧ (Lit.int k x3).wf = true ∧ (Lit.int k x4).wf = true := by
  obtain ⟨fuel, hf⟩ := hd
  obtain ⟨c0, c1, c2, c3, c4, hcs, y0, y1, y2, y3, y4, n, hx, h0, h1, h2, h3, h4⟩ := trod_array5 ht hce hct hf
  obtain ⟨x0, e0, rfl, w0⟩ := DataW.trod_int he h0
  obtain ⟨x1, e1, rfl, w1⟩ := DataW.trod_int he h1
  obtain ⟨x2, e2, rfl, w2⟩ := DataW.trod_int he h2
  obtain ⟨x3, e3, rfl, w3⟩ := DataW.trod_int he h3
  obtain ⟨x4, e4, rfl, w4⟩ := DataW.trod_int he h4
  simp at e0 e1 e2 e3 e4
  subst e0 e1 e2 e3 e4
  simp at hx
  refine ⟨x0, x1, x2, x3, x4, ?_, hx.1, hx.2, w0, w1, w2, w3, w4⟩
  simp only [Value.okWide, ht] at hval
  obtain ⟨cs, rfl, _, _⟩ := hval
  congr 1
  exact Array.ext' hcs
end
end Go.Proofs.YtpaldgajkhmhbaaDoor

namespace Go.Proofs.YtpaldgajkhmhbaaDoor
open Go.ChangeShapes Go.WideShapes Go.ChangeAt Go.WideMaps Go.WideElems Go.RowKit

theorem own_ : ownKnob Tryd.prog.godebug = none := by kernel_rfl
theorem u8_cells : Tryd.prog.cellsOf 5 = 1 := by kernel_rfl
theorem u8_under : Tryd.prog.underlying 5 = some (.int .u8) := by kernel_rfl
theorem bool_under : Tryd.prog.underlying 4 = some .bool := by kernel_rfl
theorem row_mem (a : Addr) (n : Nat) (h : 0 < n) : ∃ p ∈ MemPlace.row a n, p.block = a.block := by
  refine ⟨.cell a.block (a.off + 0), ?_, rfl⟩
  simp only [MemPlace.row, List.mem_map, List.mem_range]
  exact ⟨0, h, rfl⟩
theorem add_at (a : Addr) (i : Nat) : (a.add i).block = a.block := by unfold Addr.add; split <;> rfl
def laidE : List (String × DataW Unit) := [("buttress/edwards.curve", Rows.laid_buttress_edwards_curve), ("buttress/edwards.twice", Rows.laid_buttress_edwards_twice)]
theorem gCurve : Tryd.prog.globalNamed "buttress/edwards.curve" = some 0 := by kernel_rfl
theorem gTwice : Tryd.prog.globalNamed "buttress/edwards.twice" = some 1 := by kernel_rfl
theorem tCurve : (Tryd.prog.globals[0]?).map (·.type) = some 27 := by kernel_rfl
theorem tTwice : (Tryd.prog.globals[1]?).map (·.type) = some 27 := by kernel_rfl
theorem el_under : Tryd.prog.underlying 27 = some (.array 5 25) := by kernel_rfl
theorem u64_u : Tryd.prog.underlying 25 = some (.int .u64) := by kernel_rfl
theorem u64_cells : Tryd.prog.cellsOf 25 = 1 := by kernel_rfl
theorem el_cells : Tryd.prog.cellsOf 27 = 5 := by kernel_rfl
theorem door_met (os : Os) (args : Array Value) : laidMetH Tryd.prog laidE ((World.doorLaid Tryd.prog 400 os).forCall (fun _ _ => 0) ⟨#[], args, []⟩).memory :=
  laidMetH_of_parts3 (fuel := 8) (laidMet_of_run' 8 (by kernel_rfl) (by kernel_rfl)) (by kernel_rfl) (by kernel_rfl)
/-- what the two variables hold -/
theorem of_laid {W : World} (h : laidMetH Tryd.prog laidE W) : CvP W := by
  rw [MakeChecks.laidMetH_plain _ _ _ (by kernel_rfl)] at h
  obtain ⟨ps, ⟨g0, t0, cs0, f0, p0, q0, hg0, ht0, hv0, hd0, ⟨g1, t1, cs1, f1, p1, q1, hg1, ht1, hv1, hd1, _, _⟩, _⟩, _, _⟩ := h
  obtain rfl := Option.some.inj (gCurve.symm.trans hg0)
  obtain rfl := Option.some.inj (gTwice.symm.trans hg1)
  obtain rfl := Option.some.inj (tCurve.symm.trans ht0)
  obtain rfl := Option.some.inj (tTwice.symm.trans ht1)
  obtain ⟨a0, a1, a2, a3, a4, ha, y0, y1, y2, y3, y4, n, hx, h0, h1, h2, h3, h4⟩ := trod_array5 el_under u64_cells el_cells hd0
  obtain ⟨b0, b1, b2, b3, b4, hb, z0, z1, z2, z3, z4, m, hz, k0, k1, k2, k3, k4⟩ := trod_array5 el_under u64_cells el_cells hd1
  obtain ⟨i0, e0, rfl, _⟩ := DataW.trod_int u64_u h0
  obtain ⟨i1, e1, rfl, _⟩ := DataW.trod_int u64_u h1
  obtain ⟨i2, e2, rfl, _⟩ := DataW.trod_int u64_u h2
  obtain ⟨i3, e3, rfl, _⟩ := DataW.trod_int u64_u h3
  obtain ⟨i4, e4, rfl, _⟩ := DataW.trod_int u64_u h4
  obtain ⟨j0, l0, rfl, _⟩ := DataW.trod_int u64_u k0
  obtain ⟨j1, l1, rfl, _⟩ := DataW.trod_int u64_u k1
  obtain ⟨j2, l2, rfl, _⟩ := DataW.trod_int u64_u k2
  obtain ⟨j3, l3, rfl, _⟩ := DataW.trod_int u64_u k3
  obtain ⟨j4, l4, rfl, _⟩ := DataW.trod_int u64_u k4
  simp [Rows.laid_buttress_edwards_curve] at hx
  simp [Rows.laid_buttress_edwards_twice] at hz
  simp at e0 e1 e2 e3 e4 l0 l1 l2 l3 l4
  obtain ⟨⟨rfl, rfl, rfl, rfl, rfl⟩, _⟩ := hx
  obtain ⟨⟨rfl, rfl, rfl, rfl, rfl⟩, _⟩ := hz
  subst e0 e1 e2 e3 e4 l0 l1 l2 l3 l4
  have c0 := fun i => World.var?_cell hg0 hv0 i
  have c1 := fun i => World.var?_cell hg1 hv1 i
  obtain ⟨q0⟩ := cs0
  obtain ⟨q1⟩ := cs1
  simp only at ha hb
  subst ha hb
  refine ⟨?_, fun i _ => c0 i, fun i _ => c1 i⟩
  have := c1 0
  rcases Nat.lt_or_ge 1 W.heap.size with h | h
  · exact h
  · simp only [World.cell?, Array.getElem?_eq_none h] at this
    cases this
end Go.Proofs.YtpaldgajkhmhbaaDoor

namespace Go.Proofs.YtpaldgajkhmhbaaDoor
open Go.ChangeShapes Go.WideShapes Go.ChangeAt Go.WideMaps Go.WideElems Go.RowKit
theorem us_under : Tryd.prog.underlying 45 = some (.slice 25) := by kernel_rfl
theorem int_u : Tryd.prog.underlying 3 = some (.int .i64) := by kernel_rfl
section
variable {H : Type} {enc : TypeId × Value → H} {W : World}
theorem trodAll_six {P : Program} {w : World} {base : Nat} {spare : Nat → Bool} {held : Bool} {t0 t1 t2 t3 t4 t5 : TypeId} {args : Array Value} {ds : List (DataW H)} {ps : List MemPlace} (h : DataW.TrodAll enc P w base spare held [t0, t1, t2, t3, t4, t5] args.toList ds ps) :
    ∃ v0 v1 v2 v3 v4 v5 d0 d1 d2 d3 d4 d5 p0 p1 p2 p3 p4 p5, args = #[v0, v1, v2, v3, v4, v5] ∧ ds = [d0, d1, d2, d3, d4, d5] ∧ ps = p0 ++ (p1 ++ (p2 ++ (p3 ++ (p4 ++ p5)))) ∧ DataW.Trod enc P w base spare held t0 v0 d0 p0 ∧ DataW.Trod enc P w base spare held t1 v1 d1 p1 ∧ DataW.Trod enc P w base spare held t2 v2 d2 p2 ∧ DataW.Trod enc P w base spare held t3 v3 d3 p3 ∧ DataW.Trod enc P w base spare held t4 v4 d4 p4 ∧ DataW.Trod enc P w base spare held t5 v5 d5 p5 := by
  obtain ⟨v0, vs0, d0, ds0, p0, q0, hargs, rfl, rfl, h0, r0⟩ := trodAll_cons h
  obtain ⟨v1, vs1, d1, ds1, p1, q1, rfl, rfl, rfl, h1, r1⟩ := trodAll_cons r0
  obtain ⟨v2, vs2, d2, ds2, p2, q2, rfl, rfl, rfl, h2, r2⟩ := trodAll_cons r1
  obtain ⟨v3, vs3, d3, ds3, p3, q3, rfl, rfl, rfl, h3, r3⟩ := trodAll_cons r2
  obtain ⟨v4, vs4, d4, ds4, p4, q4, rfl, rfl, rfl, h4, r4⟩ := trodAll_cons r3
  obtain ⟨v5, vs5, d5, ds5, p5, q5, rfl, rfl, rfl, h5, r5⟩ := trodAll_cons r4
  obtain ⟨rfl, rfl, rfl⟩ := trodAll_nil r5
  exact ⟨v0, v1, v2, v3, v4, v5, d0, d1, d2, d3, d4, d5, p0, p1, p2, p3, p4, p5, by cases args; simp_all, rfl, by simp, h0, h1, h2, h3, h4, h5⟩
set_option maxRecDepth 100000 in
/-- an argument of bytes is opened -/
theorem open_bs {base : Nat} {r : Reach} {b0 : Nat} {sp : Nat → Bool} {v : Value} {d : DataW H} {ps : List MemPlace} (hv : Value.okWide Tryd.prog W r b0 22 v) (h : DataW.Trod enc Tryd.prog W base sp true 22 v d ps) :
    ∃ p n c b, v = .slice p n c ∧ (∀ j, 0 ≤ b j ∧ b j < 256) ∧ BAt W p n b := by
  obtain ⟨a1, len, cap, rfl⟩ := okWide_slice bs_underK hv
  obtain ⟨fuel, hf⟩ := h
  rcases open_ints bs_underK u8_under u8_cells hf with ⟨hcs, hx⟩ | ⟨a, len', cap', zs, hcs, _, hl, hm, hz, hx, hcell, hwz⟩
  · simp [Value.cells] at hcs
    obtain ⟨rfl, rfl, rfl⟩ := hcs
    exact ⟨none, 0, 0, fun _ => 0, rfl, fun _ => ⟨Int.le_refl _, show (0 : Int) < 256 by decide⟩, fun h => absurd h (by decide)⟩
  · simp [Value.cells] at hcs
    obtain ⟨rfl, rfl, rfl⟩ := hcs
    have hlz : len ≤ zs.length := by rw [hz]; split <;> omega
    refine ⟨some a, len, cap, fun j => zs.getD j 0, rfl, fun j => by
      have := range_u8 hwz j
      show 0 ≤ zs.getD j 0 ∧ zs.getD j 0 < 256
      rw [List.getD_eq_getElem?_getD]
      omega, fun hpos => ?_⟩
    obtain ⟨ab, ao, spot⟩ := a
    have hc1 := hcell 0 (by omega)
    have hspot : spot = none := by simpa [Addr.add] using World.cell?_spot hc1
    subst hspot
    refine ⟨ab, ao, rfl, ?_, fun j hj => ?_⟩
    · rcases Nat.lt_or_ge ab W.heap.size with h | h
      · exact h
      · rw [add_o] at hc1
        simp only [World.cell?, Array.getElem?_eq_none h] at hc1
        cases hc1
    · have := hcell j (by omega)
      rwa [add_o] at this
set_option maxRecDepth 100000 in
/-- an argument of words is opened -/
theorem open_us {base : Nat} {r : Reach} {b0 : Nat} {sp : Nat → Bool} {v : Value} {d : DataW H} {ps : List MemPlace} (hv : Value.okWide Tryd.prog W r b0 45 v) (h : DataW.Trod enc Tryd.prog W base sp true 45 v d ps) :
    ∃ p n c b, v = .slice p n c ∧ (∀ j, 0 ≤ b j ∧ b j < 18446744073709551616) ∧ UAt W p n b := by
  obtain ⟨a1, len, cap, rfl⟩ := okWide_slice us_under hv
  obtain ⟨fuel, hf⟩ := h
  rcases open_ints us_under u64_u u64_cells hf with ⟨hcs, hx⟩ | ⟨a, len', cap', zs, hcs, _, hl, hm, hz, hx, hcell, hwz⟩
  · simp [Value.cells] at hcs
    obtain ⟨rfl, rfl, rfl⟩ := hcs
    exact ⟨none, 0, 0, fun _ => 0, rfl, fun _ => ⟨Int.le_refl _, show (0 : Int) < 18446744073709551616 by decide⟩, fun h => absurd h (by decide)⟩
  · simp [Value.cells] at hcs
    obtain ⟨rfl, rfl, rfl⟩ := hcs
    have hlz : len ≤ zs.length := by rw [hz]; split <;> omega
    refine ⟨some a, len, cap, fun j => zs.getD j 0, rfl, fun j => by
      have := range_u64 hwz j
      show 0 ≤ zs.getD j 0 ∧ zs.getD j 0 < 18446744073709551616
      rw [List.getD_eq_getElem?_getD]
      omega, fun hpos => ?_⟩
    obtain ⟨ab, ao, spot⟩ := a
    have hc1 := hcell 0 (by omega)
    have hspot : spot = none := by simpa [Addr.add] using World.cell?_spot hc1
    subst hspot
    refine ⟨ab, ao, rfl, ?_, fun j hj => ?_⟩
    · rcases Nat.lt_or_ge ab W.heap.size with h | h
      · exact h
      · rw [add_o] at hc1
        simp only [World.cell?, Array.getElem?_eq_none h] at hc1
        cases hc1
    · have := hcell j (by omega)
      rwa [add_o] at this
end
set_option maxRecDepth 20000 in
set_option maxHeartbeats 4000000 in
theorem on_long (p1 : Option Addr) (n1 c1 : Nat) (p2 : Option Addr) (n2 c2 : Nat) (p3 : Option Addr) (n3 c3 : Nat) (p4 : Option Addr) (n4 c4 : Nat) (qb : Option Addr) (m c : Nat) (wh : Int) (h : (100 : Int) < m) (w : World) (hCv : CvP w) : Calls Tryd.prog 4 #[.slice p1 n1 c1, .slice p2 n2 c2, .slice p3 n3 c3, .slice p4 n4 c4, .slice qb m c, .int .i64 wh] w fun e w' => e = .returned (.bool true) ∧ Below w.heap.size w w' := by
  replace hCv := Lib.hid hCv
  go_enter Tryd.func4, Tryd.ntmps4
  go_wp2_with fail
  refine (awake4_c w hCv.out).mono ?_
  rintro e w1 ⟨rfl, hb0⟩
  replace hb0 := Lib.hid hb0
  go_wp2
  go_returns
  exact ⟨rfl, hb0.out⟩
set_option maxRecDepth 100000 in
theorem edwardsOn_lifted (os : Os) (started : os.Started) (H : Type) (enc : TypeId × Value → H) :
    ReturnsInHanded {} Tryd.checked os 4 .any (fun w args => (Rows.edwardsOnSpec.pre enc Tryd.prog Tryd.f4 [] false w args ∧ laidMetH Tryd.prog laidE w) ∧ sizedMet enc Tryd.prog Tryd.f4 (OpenSpec.ofChange Rows.edwardsOnSpec) false w args)
      (Rows.edwardsOnSpec.post enc Tryd.prog Tryd.f4 false true false false) := by
  refine returnsInHanded_of_change_and (C := Tryd.checked) (X := fun w _ => laidMetH Tryd.prog laidE w) (fun _ _ _ hh h => h.of_heap hh) own_ started (by kernel_rfl) Tryd.func4
    (ChangeSpec.witness_shaped (enc := enc) (C := Tryd.checked) (os := os) (X := fun w _ => laidMetH Tryd.prog laidE w) false (World.doorLaid Tryd.prog 400 os) #[.slice none 0 0, .slice none 0 0, .slice none 0 0, .slice none 0 0, .slice none 0 0, .int .i64 0] 8 rfl (World.shaped_of_RefB (by kernel_rfl) (by kernel_rfl)) (by kernel_rfl) (by kernel_rfl) (by kernel_rfl) (door_met os _)) ?_
  intro W base args ds gs before hval0 hW _ _ hL _
  have hval : ∀ (j : Nat) t v, Tryd.f4.params[j]? = some t → args[j]? = some v → Value.okWide Tryd.prog W .any base t v := hval0
  have hW' := hW
  obtain ⟨p, q, hA0, hV, rfl, hfz, hnd⟩ := hW
  have hA : DataW.TrodAll enc Tryd.prog W 0 (fun _ => true) true Tryd.f4.params.toList args.toList ds p := hA0
  rw [Tryd.params4] at hA hval
  obtain ⟨v0, v1, v2, v3, v4, v5, d0, d1, d2, d3, d4, d5, p0, p1, p2, p3, p4, p5, rfl, rfl, rfl, h0, h1, h2, h3, h4, h5⟩ := trodAll_six hA
  obtain ⟨rfl, rfl⟩ := trodVars_none hV
  have hv0 := hval 0 45 v0 rfl rfl
  have hv1 := hval 1 45 v1 rfl rfl
  have hv2 := hval 2 45 v2 rfl rfl
  have hv3 := hval 3 45 v3 rfl rfl
  have hv4 := hval 4 22 v4 rfl rfl
  have hv5 := hval 5 3 v5 rfl rfl
  clear hA0 hval0
  simp only [List.append_nil] at hW'
  have hCv := of_laid hL
  have hlt : ∀ x ∈ p0 ++ (p1 ++ (p2 ++ (p3 ++ (p4 ++ p5)))), x.block < W.heap.size := fun x hx => hW'.lt x hx
  obtain ⟨q1, n1, c1, u1, rfl, hu1, hU1⟩ := open_us hv0 h0
  obtain ⟨q2, n2, c2, u2, rfl, hu2, hU2⟩ := open_us hv1 h1
  obtain ⟨q3, n3, c3, u3, rfl, hu3, hU3⟩ := open_us hv2 h2
  obtain ⟨q4, n4, c4, u4, rfl, hu4, hU4⟩ := open_us hv3 h3
  obtain ⟨qb, m, c, b, rfl, hr, hB⟩ := open_bs hv4 h4
  obtain ⟨wh, rfl⟩ := okWide_int int_u hv5
  clear hv0 hv1 hv2 hv3 hv4 hv5
  have hC : Calls Tryd.prog 4 #[.slice q1 n1 c1, .slice q2 n2 c2, .slice q3 n3 c3, .slice q4 n4 c4, .slice qb m c, .int .i64 wh] W fun e w' => e = .returned (.bool true) ∧ Below W.heap.size W w' := by
    by_cases hm : m ≤ 100
    · exact on4law_c q1 n1 c1 u1 hu1 q2 n2 c2 u2 hu2 q3 n3 c3 u3 hu3 q4 n4 c4 u4 hu4 qb m c b hr hm wh W hU1 hU2 hU3 hU4 hB hCv
    · exact on_long q1 n1 c1 q2 n2 c2 q3 n3 c3 q4 n4 c4 qb m c wh (by omega) W hCv
  refine hC.mono fun e W' ⟨he, hb⟩ => ?_
  subst he
  exact ⟨_, rfl, post_of_below (pa := p0 ++ (p1 ++ (p2 ++ (p3 ++ (p4 ++ p5))))) (pv := []) hW' (fun _ _ _ => trodAll_mk1 (shut_bool bool_under true))
    (fun sp hsp => ⟨p0, p1 ++ (p2 ++ (p3 ++ (p4 ++ p5))), WideElems.Trod_stays (by kernel_rfl) (by kernel_rfl) (of_decide_eq_true (by kernel_rfl)) h0 (fun x hx => hb.same (hlt x (by simp [hx]))) (fun x hx => hsp x (by simp [hx])),
      ⟨p1, p2 ++ (p3 ++ (p4 ++ p5)), WideElems.Trod_stays (by kernel_rfl) (by kernel_rfl) (of_decide_eq_true (by kernel_rfl)) h1 (fun x hx => hb.same (hlt x (by simp [hx]))) (fun x hx => hsp x (by simp [hx])),
      ⟨p2, p3 ++ (p4 ++ p5), WideElems.Trod_stays (by kernel_rfl) (by kernel_rfl) (of_decide_eq_true (by kernel_rfl)) h2 (fun x hx => hb.same (hlt x (by simp [hx]))) (fun x hx => hsp x (by simp [hx])),
      ⟨p3, p4 ++ p5, WideElems.Trod_stays (by kernel_rfl) (by kernel_rfl) (of_decide_eq_true (by kernel_rfl)) h3 (fun x hx => hb.same (hlt x (by simp [hx]))) (fun x hx => hsp x (by simp [hx])),
      ⟨p4, p5, WideElems.Trod_stays (by kernel_rfl) (by kernel_rfl) (of_decide_eq_true (by kernel_rfl)) h4 (fun x hx => hb.same (hlt x (by simp [hx]))) (fun x hx => hsp x (by simp [hx])),
      ⟨p5, [], WideElems.Trod_stays (by kernel_rfl) (by kernel_rfl) (of_decide_eq_true (by kernel_rfl)) h5 (fun x hx => hb.same (hlt x (by simp [hx]))) (fun x hx => hsp x (by simp [hx])), rfl, by simp⟩, rfl⟩, rfl⟩, rfl⟩, rfl⟩, rfl⟩)
    (fun _ _ => rfl) (by simp) hb
    (ok_one (by kernel_rfl) rfl (okWide_bool_mk bool_under true))⟩
theorem edwardsOn_row : Rows.EdwardsOnSaid :=
  OpenClaim.holds_of_wide 4 Tryd.f4 rfl rfl rfl rfl rfl rfl rfl ⟨rfl, rfl, rfl, rfl, rfl⟩ rfl rfl rfl rfl rfl (by kernel_rfl) Tryd.func4 (by kernel_rfl)
    (of_decide_eq_true (by kernel_rfl)) (by unfold Func.isWrapper; first | (rw [if_pos (by decide +kernel)]; kernel_rfl) | (rw [if_neg (by decide +kernel)]; exact ⟨rfl, rfl⟩))
    (fun os started H enc _ => edwardsOn_lifted os started H enc)
theorem edwardsOn_holds : Rows.EdwardsOnCardSaid :=
  Claim7.holds_tied_plain_at .later [] [.data, .data] true (true, "6e129b5b755843fca1c9938d877822f84d8e150055241bfa7f0a4cfcf7dc7d77") false
    edwardsOn_row (fun _ h => by cases h) (by kernel_rfl) (fun _ h => by cases h) edwardsOn_row_tie rfl ⟨rfl, rfl⟩ (by kernel_rfl) rfl
    (fun f fn hf hfn => by
      obtain rfl : f = 4 := Option.some.inj ((show Tryd.prog.funcNamed "buttress/buttresslaw04.EdwardsOn" = some 4 by kernel_rfl).symm.trans hf) |>.symm
      obtain rfl : fn = Tryd.f4 := (Option.some.inj (Tryd.func4.symm.trans hfn)).symm
      exact ⟨by kernel_rfl, fun j t ht => by
        rw [Tryd.params4] at ht
        have hm : t ∈ [45, 45, 45, 45, 22, 3] := by simpa using Array.mem_of_getElem? ht
        have hall : ([45, 45, 45, 45, 22, 3].all fun u => !Tryd.prog.wantsStandIn u) = true := by kernel_rfl
        exact (show Tryd.prog.wantsStandIn t = false by simpa using List.all_eq_true.1 hall t hm)⟩)
    (by kernel_rfl)
end Go.Proofs.YtpaldgajkhmhbaaDoor
