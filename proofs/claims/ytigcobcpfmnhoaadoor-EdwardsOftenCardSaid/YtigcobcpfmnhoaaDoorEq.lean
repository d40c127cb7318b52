/- Two arrays of integers are held against each other. -/
import Derived.WalkKit
import Derived.WalkSpells
namespace Go.Proofs.YtigcobcpfmnhoaaDoor
open Go.RowKit
section
variable {P : Program}
theorem run_equalIn_ints (w : World) (d n : Nat) {t e : TypeId} {k : IntKind} (ht : P.underlying t = some (.array n e)) (he : P.underlying e = some (.int k)) (hs : (P.info? e).map (·.size) = some 1) (xs ys : List Int) (hx : xs.length = n) (hy : ys.length = n) :
    (Op.equalIn (d + 2) t (.agg (xs.map (Value.int k)).toArray) (.agg (ys.map (Value.int k)).toArray)).run P w = .ok (decide (xs = ys)) w := by
  have hsz : ∀ w, (sizeOf e).run P w = .ok 1 w := by
    intro w
    cases hq : P.info? e with
    | none => simp [hq] at hs
    | some i => simp [hq] at hs; simp [sizeOf, typeInfo, hq, hs]
  have hag : ∀ w, (isAgg e).run P w = .ok false w := by
    intro w
    simp [isAgg, run_underlying he]
  have heq : ∀ (a b : Int) (w : World), (Op.equalIn (d + 1) e (.int k a) (.int k b)).run P w = .ok (a == b) w := fun a b w => run_equalIn_int w d e k k a b he
  unfold Op.equalIn
  simp only [Sem.run_bind, run_underlying ht, Result.andThen_ok, hsz]
  simp only [Std.Legacy.Range.forIn_eq_forIn_range', Std.Legacy.Range.size, Nat.sub_zero, Nat.add_sub_cancel, Nat.div_one]
  have hat : ∀ (zs : List Int) (i : Nat) (h : i < zs.length) (w : World), (part e (zs.map (Value.int k)).toArray (i * 1)).run P w = .ok (.int k zs[i]) w := by
    intro zs i h w
    simp [part, hag, h]
  have key : ∀ (m i : Nat) (w : World), i + m = n →
      (forIn (List.range' i m) ((none : Option Bool), ()) (fun (a : Nat) (s : Option Bool × Unit) => (do
        let u ← part e (xs.map (Value.int k)).toArray (a * 1)
        let v ← part e (ys.map (Value.int k)).toArray (a * 1)
        let b ← Op.equalIn (d + 1) e u v
        if (!b) = true then pure (ForInStep.done (some false, ())) else pure (ForInStep.yield (none, ())) : Sem (ForInStep (Option Bool × Unit))))).run P w =
        .ok (if xs.drop i = ys.drop i then (none, ()) else (some false, ())) w := by
    intro m
    induction m with
    | zero =>
      intro i w hi
      rw [List.drop_eq_nil_of_le (by omega), List.drop_eq_nil_of_le (by omega)]
      simp
    | succ m ih =>
      intro i w hi
      rw [List.range'_succ, List.forIn_cons]
      simp only [Sem.run_bind, hat xs i (by omega), hat ys i (by omega), Result.andThen_ok, heq]
      have hc : (xs.drop i = ys.drop i) = (xs[i]'(by omega) = ys[i]'(by omega) ∧ xs.drop (i + 1) = ys.drop (i + 1)) := by
        rw [List.drop_eq_getElem_cons (show i < xs.length by omega), List.drop_eq_getElem_cons (show i < ys.length by omega), List.cons.injEq]
      simp only [hc]
      by_cases h : xs[i]'(by omega) = ys[i]'(by omega)
      · simp only [h, BEq.rfl, Bool.not_true, Bool.false_eq_true, if_false, Sem.run_pure, Result.andThen_ok]
        rw [ih (i + 1) w (by omega)]
        simp only [true_and]
      have hb : (xs[i]'(by omega) == ys[i]'(by omega)) = false := by simpa using h
      simp only [hb, Bool.not_false, if_true, Sem.run_pure, Result.andThen_ok]
      rw [if_neg (fun hh => h hh.1)]
  have h0 := key n 0 w (by omega)
  simp only [List.drop_zero] at h0
  by_cases hxy : xs = ys
  · rw [if_pos hxy] at h0
    rw [h0, decide_eq_true hxy]
    rfl
  rw [if_neg hxy] at h0
  rw [h0, decide_eq_false hxy]
  rfl

theorem run_eql_ints (w : World) (n : Nat) {t e : TypeId} {k : IntKind} (ht : P.underlying t = some (.array n e)) (he : P.underlying e = some (.int k)) (hs : (P.info? e).map (·.size) = some 1) (xs ys : List Int) (hx : xs.length = n) (hy : ys.length = n) :
    (binOp .eql t (.agg (xs.map (Value.int k)).toArray) (.agg (ys.map (Value.int k)).toArray)).run P w = .ok (.bool (decide (xs = ys))) w := by
  rw [run_eql_struct]
  rw [show (10000 : Nat) = 9998 + 2 from rfl, run_equalIn_ints w 9998 n ht he hs xs ys hx hy]
  rfl
theorem run_neq_ints (w : World) (n : Nat) {t e : TypeId} {k : IntKind} (ht : P.underlying t = some (.array n e)) (he : P.underlying e = some (.int k)) (hs : (P.info? e).map (·.size) = some 1) (xs ys : List Int) (hx : xs.length = n) (hy : ys.length = n) :
    (binOp .neq t (.agg (xs.map (Value.int k)).toArray) (.agg (ys.map (Value.int k)).toArray)).run P w = .ok (.bool (!decide (xs = ys))) w := by
  rw [run_neq_struct]
  rw [show (10000 : Nat) = 9998 + 2 from rfl, run_equalIn_ints w 9998 n ht he hs xs ys hx hy]
  rfl
end
end Go.Proofs.YtigcobcpfmnhoaaDoor
