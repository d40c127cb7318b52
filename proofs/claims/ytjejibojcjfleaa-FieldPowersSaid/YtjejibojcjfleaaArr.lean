/- Two arrays of five words, as they are read among a call's arguments. -/
import Derived.ProofKit
import Derived.Laws.IdiomArrays
namespace Go.Proofs.Ytjejibojcjfleaa
open Go.ChangeShapes Go.WideShapes Go.ChangeAt Go.RowKit
section
variable {H : Type} {enc : TypeId × Value → H} {P : Program} {w : World} {base : Nat} {spare : Nat → Bool} {held : Bool}
theorem trod_array5 {t e : TypeId} {fuel : Nat} {cs : List Value} {x : DataW H × List MemPlace} (ht : P.underlying t = some (.array 5 e)) (hce : P.cellsOf e = 1) (hct : P.cellsOf t = 5)
    (h : DataW.trod enc P w base spare held fuel t cs = some x) : ∃ c0 c1 c2 c3 c4, cs = [c0, c1, c2, c3, c4] ∧
    ∃ y0 y1 y2 y3 y4 n, x = (.agg [y0.1, y1.1, y2.1, y3.1, y4.1], y0.2 ++ (y1.2 ++ (y2.2 ++ (y3.2 ++ y4.2)))) ∧ DataW.trod enc P w base spare held n e [c0] = some y0 ∧ DataW.trod enc P w base spare held n e [c1] = some y1 ∧ DataW.trod enc P w base spare held n e [c2] = some y2 ∧ DataW.trod enc P w base spare held n e [c3] = some y3 ∧ DataW.trod enc P w base spare held n e [c4] = some y4 := by
  cases fuel with
  | zero => simp [DataW.trod] at h
  | succ n =>
    unfold DataW.trod at h
    rw [ht] at h
    have r5 : List.range 5 = [0, 1, 2, 3, 4] := rfl
    simp [r5, hce, hct] at h
    obtain ⟨hl, h⟩ := h
    match cs, hl, h with
    | [c0, c1, c2, c3, c4], _, h =>
      refine ⟨c0, c1, c2, c3, c4, rfl, ?_⟩
      simp at h
      cases h0 : DataW.trod enc P w base spare held n e [c0] with
      | none => simp [h0] at h
      | some y0 =>
        cases h1 : DataW.trod enc P w base spare held n e [c1] with
        | none => simp [h0, h1] at h
        | some y1 =>
          cases h2 : DataW.trod enc P w base spare held n e [c2] with
          | none => simp [h0, h1, h2] at h
          | some y2 =>
            cases h3 : DataW.trod enc P w base spare held n e [c3] with
            | none => simp [h0, h1, h2, h3] at h
            | some y3 =>
              cases h4 : DataW.trod enc P w base spare held n e [c4] with
              | none => simp [h0, h1, h2, h3, h4] at h
              | some y4 =>
                simp [h0, h1, h2, h3, h4] at h
                exact ⟨y0, y1, y2, y3, y4, n, h.symm, h0, h1, h2, h3, h4⟩
theorem shut_array5 {t e : TypeId} {k : IntKind} (ht : P.underlying t = some (.array 5 e)) (he : P.underlying e = some (.int k)) (hce : P.cellsOf e = 1) (hct : P.cellsOf t = 5) {x0 x1 x2 x3 x4 : Int}
    (h0 : (Lit.int k x0).wf = true) (h1 : (Lit.int k x1).wf = true) (h2 : (Lit.int k x2).wf = true) (h3 : (Lit.int k x3).wf = true) (h4 : (Lit.int k x4).wf = true) :
    DataW.Trod enc P w base spare held t (.agg #[.int k x0, .int k x1, .int k x2, .int k x3, .int k x4]) (.agg [.lit (.int k x0), .lit (.int k x1), .lit (.int k x2), .lit (.int k x3), .lit (.int k x4)]) [] := by
  refine ⟨2, ?_⟩
  have r5 : List.range 5 = [0, 1, 2, 3, 4] := rfl
  have hs : ∀ x, (Lit.int k x).wf = true → DataW.trod enc P w base spare held 1 e [.int k x] = some (.lit (.int k x), []) := fun x hx => by simp [DataW.trod, he, hx]
  unfold DataW.trod
  rw [ht]
  simp [r5, hce, hct, Value.cells, hs _ h0, hs _ h1, hs _ h2, hs _ h3, hs _ h4]
/-- an array of five words among the arguments -/
theorem open_array5 {t e : TypeId} {k : IntKind} {v : Value} {d : DataW H} {ps : List MemPlace} (ht : P.underlying t = some (.array 5 e)) (he : P.underlying e = some (.int k)) (hce : P.cellsOf e = 1) (hct : P.cellsOf t = 5) {r : Reach} {b0 : Nat} (hval : Value.okWide P w r b0 t v) (hd : DataW.Trod enc P w base spare held t v d ps) :
    ∃ x0 x1 x2 x3 x4 : Int, v = .agg #[.int k x0, .int k x1, .int k x2, .int k x3, .int k x4] ∧ d = .agg [.lit (.int k x0), .lit (.int k x1), .lit (.int k x2), .lit (.int k x3), .lit (.int k x4)] ∧ ps = [] ∧
      (Lit.int k x0).wf = true ∧ (Lit.int k x1).wf = true ∧ (Lit.int k x2).wf = true ∧ (Lit.int k x3).wf = true ∧ (Lit.int k x4).wf = true := by
  obtain ⟨fuel, hf⟩ := hd
  obtain ⟨c0, c1, c2, c3, c4, hcs, y0, y1, y2, y3, y4, n, hx, h0, h1, h2, h3, h4⟩ := trod_array5 ht hce hct hf
  obtain ⟨x0, e0, rfl, w0⟩ := DataW.trod_int he h0
  obtain ⟨x1, e1, rfl, w1⟩ := DataW.trod_int he h1
  obtain ⟨x2, e2, rfl, w2⟩ := DataW.trod_int he h2
  obtain ⟨x3, e3, rfl, w3⟩ := DataW.trod_int he h3
  obtain ⟨x4, e4, rfl, w4⟩ := DataW.trod_int he h4
  simp at e0 e1 e2 e3 e4
  subst e0 e1 e2 e3 e4
  simp at hx
  refine ⟨x0, x1, x2, x3, x4, ?_, hx.1, hx.2, w0, w1, w2, w3, w4⟩
  simp only [Value.okWide, ht] at hval
  obtain ⟨cs, rfl, _, _⟩ := hval
  congr 1
  exact Array.ext' hcs
end
end Go.Proofs.Ytjejibojcjfleaa
