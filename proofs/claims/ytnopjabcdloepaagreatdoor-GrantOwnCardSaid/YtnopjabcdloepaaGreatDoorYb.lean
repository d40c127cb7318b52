import Derived.Test.YtnopjabcdloepaaGreatDoorFm
import Derived.WalkKit
import Derived.WalkSpells
import Derived.Test.YtnopjabcdloepaaGreatDoorYa
namespace Go.Proofs.YtnopjabcdloepaaGreatDoor
open Go.RowKit
set_option maxRecDepth 20000 in
set_option maxHeartbeats 400000 in
theorem sub_c (a0 a1 a2 a3 a4 b0 b1 b2 b3 b4 : Int) (w : World) :
    Calls Tryz.prog 253 #[.agg #[.int .u64 a0, .int .u64 a1, .int .u64 a2, .int .u64 a3, .int .u64 a4], .agg #[.int .u64 b0, .int .u64 b1, .int .u64 b2, .int .u64 b3, .int .u64 b4]] w (Post5 (Fe.subE ⟨a0, a1, a2, a3, a4⟩ ⟨b0, b1, b2, b3, b4⟩) w) := by
  go_enter Tryz.func253, Tryz.ntmps253
  go_wp2
  refine wp_loop_rounds 6 ?_
  rw [rounds_succ]
  go_wp2
  go_region
  go_wp2
  rw [rounds_succ]
  go_wp2
  go_region
  go_wp2
  rw [rounds_succ]
  go_wp2
  go_region
  go_wp2
  rw [rounds_succ]
  go_wp2
  go_region
  go_wp2
  rw [rounds_succ]
  go_wp2
  go_region
  go_wp2
  rw [rounds_succ]
  go_wp2_with fail
  refine (carried_c _ _ _ _ _ (by simp only [wr_eq]; exact Fe.wr_w _ _ _ _ _) _).mono ?_
  rintro e w1 ⟨r0, r1, r2, r3, r4, rfl, hr, hb⟩
  have hr' := Lib.hid hr
  clear hr
  obtain ⟨hc, hf⟩ := bcell hb
  go_wp2
  refine bodyPost_ret (v := .agg #[.int .u64 r0, .int .u64 r1, .int .u64 r2, .int .u64 r3, .int .u64 r4]) (by simp [results, Tryz.results253, go_sem, hc]) rfl ?_
  refine Post5.mk' ?_ ?_
  · rw [hr'.out]; simp only [wr_eq]; rfl
  clear hc hf hr'
  go_grown
  exact below_after (by go_grown) hb
set_option maxRecDepth 20000 in
set_option maxHeartbeats 400000 in
theorem neg_c (a0 a1 a2 a3 a4 : Int) (w : World) :
    Calls Tryz.prog 258 #[.agg #[.int .u64 a0, .int .u64 a1, .int .u64 a2, .int .u64 a3, .int .u64 a4]] w (Post5 (Fe.subE ⟨0, 0, 0, 0, 0⟩ ⟨a0, a1, a2, a3, a4⟩) w) := by
  go_enter Tryz.func258, Tryz.ntmps258
  go_wp2_with fail
  refine (sub_c _ _ _ _ _ _ _ _ _ _ _).mono ?_
  rintro e w1 ⟨r0, r1, r2, r3, r4, rfl, hr, hb⟩
  have hr' := Lib.hid hr
  clear hr
  obtain ⟨hc, hf⟩ := bcell hb
  go_wp2
  refine bodyPost_ret (v := .agg #[.int .u64 r0, .int .u64 r1, .int .u64 r2, .int .u64 r3, .int .u64 r4]) (by simp [results, Tryz.results258, go_sem, hc]) rfl ?_
  refine Post5.mk' hr'.out ?_
  clear hc hf hr'
  go_grown
  exact below_after (by go_grown) hb
set_option maxRecDepth 20000 in
set_option maxHeartbeats 400000 in
theorem square_c (a0 a1 a2 a3 a4 : Int) (hw : Fe.W ⟨a0, a1, a2, a3, a4⟩) (w : World) :
    Calls Tryz.prog 251 #[.agg #[.int .u64 a0, .int .u64 a1, .int .u64 a2, .int .u64 a3, .int .u64 a4]] w (Post5 (Fe.mulE ⟨a0, a1, a2, a3, a4⟩ ⟨a0, a1, a2, a3, a4⟩) w) := by
  go_enter Tryz.func251, Tryz.ntmps251
  go_wp2_with fail
  refine (mul_c _ _ _ _ _ _ _ _ _ _ hw hw _).mono ?_
  rintro e w1 ⟨r0, r1, r2, r3, r4, rfl, hr, hb⟩
  have hr' := Lib.hid hr
  clear hr hw
  obtain ⟨hc, hf⟩ := bcell hb
  go_wp2
  refine bodyPost_ret (v := .agg #[.int .u64 r0, .int .u64 r1, .int .u64 r2, .int .u64 r3, .int .u64 r4]) (by simp [results, Tryz.results251, go_sem, hc]) rfl ?_
  refine Post5.mk' hr'.out ?_
  clear hc hf hr'
  go_grown
  exact below_after (by go_grown) hb
def Post5x (x : Fe.E) (w : World) (e : Ending) (w' : World) : Prop :=
  ∃ r0 r1 r2 r3 r4 : Int, e = .returned (.agg #[.int .u64 r0, .int .u64 r1, .int .u64 r2, .int .u64 r3, .int .u64 r4]) ∧ Fe.E.mk r0 r1 r2 r3 r4 = x ∧
    w' = ((w.alloc (.cells #[.int .u64 r0, .int .u64 r1, .int .u64 r2, .int .u64 r3, .int .u64 r4] 202)).alloc (.cells #[.int .u64 r0, .int .u64 r1, .int .u64 r2, .int .u64 r3, .int .u64 r4] 202)).drew.drew.drew.drew
set_option maxRecDepth 20000 in
set_option maxHeartbeats 400000 in
theorem carried_x (a0 a1 a2 a3 a4 : Int) (hw : Fe.W ⟨a0, a1, a2, a3, a4⟩) (w : World) :
    Calls Tryz.prog 324 #[.agg #[.int .u64 a0, .int .u64 a1, .int .u64 a2, .int .u64 a3, .int .u64 a4]] w (Post5x (Fe.carr ⟨a0, a1, a2, a3, a4⟩) w) := by
  have he := Lib.hid (carried_eq hw)
  clear hw
  go_enter Tryz.func324, Tryz.ntmps324
  go_wp2
  refine wp_loop_rounds 5 ?_
  rw [rounds_succ]
  go_wp2
  go_region
  go_wp2
  rw [rounds_succ]
  go_wp2
  go_region
  go_wp2
  rw [rounds_succ]
  go_wp2
  go_region
  go_wp2
  rw [rounds_succ]
  go_wp2
  go_region
  go_wp2
  rw [rounds_succ]
  go_wp2
  go_returns
  exact ⟨_, _, _, _, _, rfl, he.out, rfl⟩
theorem and51w (x : Int) : bits .and .u64 (x % 18446744073709551616) 2251799813685247 = x % 18446744073709551616 % 2251799813685248 := and51 (by omega)
theorem canon_eq {y0 y1 y2 y3 y4 : Int} (h0 : 0 ≤ y0 ∧ y0 ≤ 2251799813841007) (h1 : 0 ≤ y1 ∧ y1 ≤ 2251799813841007) (h2 : 0 ≤ y2 ∧ y2 ≤ 2251799813841007) (h3 : 0 ≤ y3 ∧ y3 ≤ 2251799813841007) (h4 : 0 ≤ y4 ∧ y4 ≤ 2251799813841007) :
    Fe.E.mk (bits .and .u64 (IntKind.u64.wrap (y0 + IntKind.u64.wrap (19 * (IntKind.u64.wrap (y4 + IntKind.u64.wrap (y3 + IntKind.u64.wrap (y2 + IntKind.u64.wrap (y1 + IntKind.u64.wrap (y0 + 19) / 2251799813685248) / 2251799813685248) / 2251799813685248) / 2251799813685248) / 2251799813685248)))) 2251799813685247)
      (bits .and .u64 (IntKind.u64.wrap (y1 + IntKind.u64.wrap (y0 + IntKind.u64.wrap (19 * (IntKind.u64.wrap (y4 + IntKind.u64.wrap (y3 + IntKind.u64.wrap (y2 + IntKind.u64.wrap (y1 + IntKind.u64.wrap (y0 + 19) / 2251799813685248) / 2251799813685248) / 2251799813685248) / 2251799813685248) / 2251799813685248))) / 2251799813685248)) 2251799813685247)
      (bits .and .u64 (IntKind.u64.wrap (y2 + IntKind.u64.wrap (y1 + IntKind.u64.wrap (y0 + IntKind.u64.wrap (19 * (IntKind.u64.wrap (y4 + IntKind.u64.wrap (y3 + IntKind.u64.wrap (y2 + IntKind.u64.wrap (y1 + IntKind.u64.wrap (y0 + 19) / 2251799813685248) / 2251799813685248) / 2251799813685248) / 2251799813685248) / 2251799813685248))) / 2251799813685248) / 2251799813685248)) 2251799813685247)
      (bits .and .u64 (IntKind.u64.wrap (y3 + IntKind.u64.wrap (y2 + IntKind.u64.wrap (y1 + IntKind.u64.wrap (y0 + IntKind.u64.wrap (19 * (IntKind.u64.wrap (y4 + IntKind.u64.wrap (y3 + IntKind.u64.wrap (y2 + IntKind.u64.wrap (y1 + IntKind.u64.wrap (y0 + 19) / 2251799813685248) / 2251799813685248) / 2251799813685248) / 2251799813685248) / 2251799813685248))) / 2251799813685248) / 2251799813685248) / 2251799813685248)) 2251799813685247)
      (bits .and .u64 (IntKind.u64.wrap (y4 + IntKind.u64.wrap (y3 + IntKind.u64.wrap (y2 + IntKind.u64.wrap (y1 + IntKind.u64.wrap (y0 + IntKind.u64.wrap (19 * (IntKind.u64.wrap (y4 + IntKind.u64.wrap (y3 + IntKind.u64.wrap (y2 + IntKind.u64.wrap (y1 + IntKind.u64.wrap (y0 + 19) / 2251799813685248) / 2251799813685248) / 2251799813685248) / 2251799813685248) / 2251799813685248))) / 2251799813685248) / 2251799813685248) / 2251799813685248) / 2251799813685248)) 2251799813685247) = Fe.canonC ⟨y0, y1, y2, y3, y4⟩ := by
  simp only [IntKind.wrap_u64, and51w]
  have w : ∀ {x : Int}, 0 ≤ x ∧ x ≤ 18446744073709551615 → x % 18446744073709551616 = x := fun h => by omega
  rw [w (x := y0 + 19) (by omega)]
  rw [w (x := y1 + (y0 + 19) / 2251799813685248) (by omega)]
  rw [w (x := y2 + (y1 + (y0 + 19) / 2251799813685248) / 2251799813685248) (by omega)]
  rw [w (x := y3 + (y2 + (y1 + (y0 + 19) / 2251799813685248) / 2251799813685248) / 2251799813685248) (by omega)]
  rw [w (x := y4 + (y3 + (y2 + (y1 + (y0 + 19) / 2251799813685248) / 2251799813685248) / 2251799813685248) / 2251799813685248) (by omega)]
  simp only [Fe.canonC, Fe.last]
  have hq : (y4 + (y3 + (y2 + (y1 + (y0 + 19) / 2251799813685248) / 2251799813685248) / 2251799813685248) / 2251799813685248) / 2251799813685248 = Fe.qof ⟨y0, y1, y2, y3, y4⟩ := rfl
  rw [hq]
  have hqb : 0 ≤ Fe.qof ⟨y0, y1, y2, y3, y4⟩ ∧ Fe.qof ⟨y0, y1, y2, y3, y4⟩ ≤ 2 := by simp only [Fe.qof]; omega
  generalize Fe.qof ⟨y0, y1, y2, y3, y4⟩ = q at *
  simp only [Fe.E.mk.injEq]
  clear hq
  rw [w (x := 19 * q) (by omega)]
  rw [w (x := y0 + 19 * q) (by omega)]
  rw [w (x := y1 + (y0 + 19 * q) / 2251799813685248) (by omega)]
  rw [w (x := y2 + (y1 + (y0 + 19 * q) / 2251799813685248) / 2251799813685248) (by omega)]
  rw [w (x := y3 + (y2 + (y1 + (y0 + 19 * q) / 2251799813685248) / 2251799813685248) / 2251799813685248) (by omega)]
  rw [w (x := y4 + (y3 + (y2 + (y1 + (y0 + 19 * q) / 2251799813685248) / 2251799813685248) / 2251799813685248) / 2251799813685248) (by omega)]
  exact ⟨rfl, rfl, rfl, rfl, rfl⟩
theorem carr_b {x0 x1 x2 x3 x4 y0 y1 y2 y3 y4 : Int} (h : Fe.W ⟨x0, x1, x2, x3, x4⟩) (e : Fe.E.mk y0 y1 y2 y3 y4 = Fe.carr ⟨x0, x1, x2, x3, x4⟩) :
    (0 ≤ y0 ∧ y0 ≤ 2251799813841007) ∧ (0 ≤ y1 ∧ y1 ≤ 2251799813841007) ∧ (0 ≤ y2 ∧ y2 ≤ 2251799813841007) ∧ (0 ≤ y3 ∧ y3 ≤ 2251799813841007) ∧ (0 ≤ y4 ∧ y4 ≤ 2251799813841007) := by
  simp only [Fe.carr, Fe.E.mk.injEq, Fe.W] at *
  omega
set_option maxRecDepth 20000 in
set_option maxHeartbeats 1000000 in
theorem canonical_c (a0 a1 a2 a3 a4 : Int) (hw : Fe.W ⟨a0, a1, a2, a3, a4⟩) (w : World) :
    Calls Tryz.prog 322 #[.agg #[.int .u64 a0, .int .u64 a1, .int .u64 a2, .int .u64 a3, .int .u64 a4]] w (Post5 (Fe.canon ⟨a0, a1, a2, a3, a4⟩) w) := by
  go_enter Tryz.func322, Tryz.ntmps322
  go_wp2_with fail
  refine (carried_x _ _ _ _ _ hw _).mono ?_
  rintro e w1 ⟨x0, x1, x2, x3, x4, rfl, hx, rfl⟩
  have hw1 : Fe.W ⟨x0, x1, x2, x3, x4⟩ := by rw [hx]; exact Fe.carr_w hw
  have hx := Lib.hid hx
  clear hw
  go_wp2_with fail
  refine (carried_x _ _ _ _ _ hw1 _).mono ?_
  rintro e w2 ⟨y0, y1, y2, y3, y4, rfl, hy, rfl⟩
  have hcb := Lib.hid (carr_b hw1 hy)
  have hy := Lib.hid hy
  clear hw1
  go_wp2
  refine wp_loop_rounds 5 ?_
  rw [rounds_succ]
  go_wp2
  rw [rounds_succ]
  go_wp2
  rw [rounds_succ]
  go_wp2
  rw [rounds_succ]
  go_wp2
  rw [rounds_succ]
  go_wp2
  refine wp_loop_rounds 5 ?_
  rw [rounds_succ]
  go_wp2
  go_region
  go_wp2
  rw [rounds_succ]
  go_wp2
  go_region
  go_wp2
  rw [rounds_succ]
  go_wp2
  go_region
  go_wp2
  rw [rounds_succ]
  go_wp2
  go_region
  go_wp2
  rw [rounds_succ]
  go_wp2
  go_returns
  refine Post5.mk' ?_ ?_
  · obtain ⟨g0, g1, g2, g3, g4⟩ := hcb.out
    rw [canon_eq g0 g1 g2 g3 g4, hy.out, hx.out]
    rfl
  go_grown
end Go.Proofs.YtnopjabcdloepaaGreatDoor
namespace Go.Proofs.YtnopjabcdloepaaGreatDoor
open Go.RowKit
section
variable {P : Program}
theorem run_equalIn_ints (w : World) (d n : Nat) {t e : TypeId} {k : IntKind} (ht : P.underlying t = some (.array n e)) (he : P.underlying e = some (.int k)) (hs : (P.info? e).map (·.size) = some 1) (xs ys : List Int) (hx : xs.length = n) (hy : ys.length = n) :
    (Op.equalIn (d + 2) t (.agg (xs.map (Value.int k)).toArray) (.agg (ys.map (Value.int k)).toArray)).run P w = .ok (decide (xs = ys)) w := by
  have hsz : ∀ w, (sizeOf e).run P w = .ok 1 w := by
    intro w
    cases hq : P.info? e with
    | none => simp [hq] at hs
    | some i => simp [hq] at hs; simp [sizeOf, typeInfo, hq, hs]
  have hag : ∀ w, (isAgg e).run P w = .ok false w := by
    intro w
    simp [isAgg, run_underlying he]
  have heq : ∀ (a b : Int) (w : World), (Op.equalIn (d + 1) e (.int k a) (.int k b)).run P w = .ok (a == b) w := fun a b w => run_equalIn_int w d e k k a b he
  unfold Op.equalIn
  simp only [Sem.run_bind, run_underlying ht, Result.andThen_ok, hsz]
  simp only [Std.Legacy.Range.forIn_eq_forIn_range', Std.Legacy.Range.size, Nat.sub_zero, Nat.add_sub_cancel, Nat.div_one]
  have hat : ∀ (zs : List Int) (i : Nat) (h : i < zs.length) (w : World), (part e (zs.map (Value.int k)).toArray (i * 1)).run P w = .ok (.int k zs[i]) w := by
    intro zs i h w
    simp [part, hag, h]
  have key : ∀ (m i : Nat) (w : World), i + m = n →
      (forIn (List.range' i m) ((none : Option Bool), ()) (fun (a : Nat) (s : Option Bool × Unit) => (do
        let u ← part e (xs.map (Value.int k)).toArray (a * 1)
        let v ← part e (ys.map (Value.int k)).toArray (a * 1)
        let b ← Op.equalIn (d + 1) e u v
        if (!b) = true then pure (ForInStep.done (some false, ())) else pure (ForInStep.yield (none, ())) : Sem (ForInStep (Option Bool × Unit))))).run P w =
        .ok (if xs.drop i = ys.drop i then (none, ()) else (some false, ())) w := by
    intro m
    induction m with
    | zero =>
      intro i w hi
      rw [List.drop_eq_nil_of_le (by omega), List.drop_eq_nil_of_le (by omega)]
      simp
    | succ m ih =>
      intro i w hi
      rw [List.range'_succ, List.forIn_cons]
      simp only [Sem.run_bind, hat xs i (by omega), hat ys i (by omega), Result.andThen_ok, heq]
      have hc : (xs.drop i = ys.drop i) = (xs[i]'(by omega) = ys[i]'(by omega) ∧ xs.drop (i + 1) = ys.drop (i + 1)) := by
        rw [List.drop_eq_getElem_cons (show i < xs.length by omega), List.drop_eq_getElem_cons (show i < ys.length by omega), List.cons.injEq]
      simp only [hc]
      by_cases h : xs[i]'(by omega) = ys[i]'(by omega)
      · simp only [h, BEq.rfl, Bool.not_true, Bool.false_eq_true, if_false, Sem.run_pure, Result.andThen_ok]
        rw [ih (i + 1) w (by omega)]
        simp only [true_and]
      have hb : (xs[i]'(by omega) == ys[i]'(by omega)) = false := by simpa using h
      simp only [hb, Bool.not_false, if_true, Sem.run_pure, Result.andThen_ok]
      rw [if_neg (fun hh => h hh.1)]
  have h0 := key n 0 w (by omega)
  simp only [List.drop_zero] at h0
  by_cases hxy : xs = ys
  · rw [if_pos hxy] at h0
    rw [h0, decide_eq_true hxy]
    rfl
  rw [if_neg hxy] at h0
  rw [h0, decide_eq_false hxy]
  rfl
theorem run_eql_ints (w : World) (n : Nat) {t e : TypeId} {k : IntKind} (ht : P.underlying t = some (.array n e)) (he : P.underlying e = some (.int k)) (hs : (P.info? e).map (·.size) = some 1) (xs ys : List Int) (hx : xs.length = n) (hy : ys.length = n) :
    (binOp .eql t (.agg (xs.map (Value.int k)).toArray) (.agg (ys.map (Value.int k)).toArray)).run P w = .ok (.bool (decide (xs = ys))) w := by
  rw [run_eql_struct]
  rw [show (10000 : Nat) = 9998 + 2 from rfl, run_equalIn_ints w 9998 n ht he hs xs ys hx hy]
  rfl
theorem run_neq_ints (w : World) (n : Nat) {t e : TypeId} {k : IntKind} (ht : P.underlying t = some (.array n e)) (he : P.underlying e = some (.int k)) (hs : (P.info? e).map (·.size) = some 1) (xs ys : List Int) (hx : xs.length = n) (hy : ys.length = n) :
    (binOp .neq t (.agg (xs.map (Value.int k)).toArray) (.agg (ys.map (Value.int k)).toArray)).run P w = .ok (.bool (!decide (xs = ys))) w := by
  rw [run_neq_struct]
  rw [show (10000 : Nat) = 9998 + 2 from rfl, run_equalIn_ints w 9998 n ht he hs xs ys hx hy]
  rfl
end
end Go.Proofs.YtnopjabcdloepaaGreatDoor
namespace Go.Proofs.YtnopjabcdloepaaGreatDoor
open Go.RowKit
section
variable {P : Program} {ops : Array Oper} {md : Region.Mode}
def tail2B (md : Region.Mode) (ops : Array Oper) (n : Nat) : Bool :=
  decide (n ≤ ops.size) && (decide (n = ops.size) || (Region.sinkB md ops n && Region.chainB md ops n)) && Region.seqB md ops (ops.size - n) n ((Array.replicate n true) ++ Array.replicate (ops.size - n) false)
theorem wpAny_inv2 {Q : Exit → Act → World → Prop} {n : Nat} (hB : tail2B md ops n = true) (J : Array Bool → Act → World → Prop)
    (step : ∀ i, i < n → ∀ listed a w, HeadInv md ops n listed → i ∈ Region.ready md ops listed → J listed a w → wpOp P ops Q i (fun a' w' => J (listed.setIfInBounds i true) a' w') a w)
    (hdag : ∀ i, i < n → ∀ o, ops[i]? = some o → ∀ e ∈ o.after, Region.binds md e = true → e.on < i)
    (done : ∀ a w, J ((Array.replicate n true) ++ Array.replicate (ops.size - n) false) a w → wpList P ops Q (ops.toList.drop n) a w) :
    ∀ (m : Nat) (listed : Array Bool) (a : Act) (w : World), left n listed = m → HeadInv md ops n listed → J listed a w → wpAny P md ops Q (m + (ops.size - n)) listed a w := by
  simp only [tail2B, Bool.and_eq_true, Bool.or_eq_true, decide_eq_true_eq] at hB
  obtain ⟨⟨hn, hsc⟩, hq⟩ := hB
  intro m
  induction m using Nat.strongRecOn with
  | _ m ih =>
    intro listed a w hm inv hJ
    by_cases h0 : left n listed = 0
    · have hall := head_all inv hn (left_zero h0)
      subst hall
      have hm0 : m = 0 := by omega
      subst hm0
      have h1 := done a w hJ
      have hl : (ops.toList.drop n).length = ops.size - n := by simp
      have h2 := wpAny_of_seq (md := md) (Q' := Q) (ops.toList.drop n) n ((Array.replicate n true) ++ Array.replicate (ops.size - n) false) a w
        (fun j => by rw [List.getElem?_drop]; simp) (by rw [hl]; exact hq) h1
      rw [hl] at h2
      rw [Nat.zero_add]
      exact h2
    have hex : ∃ i, i < n ∧ listed.getD i true = false := by
      rcases Classical.em (∃ i, i < n ∧ listed.getD i true = false) with h | h
      · exact h
      exfalso
      apply h0
      unfold left
      have : ((List.range n).filter fun i => !listed.getD i true) = [] := by
        rw [List.filter_eq_nil_iff]
        intro i hi hh
        exact h ⟨i, List.mem_range.1 hi, by simpa using hh⟩
      rw [this]; rfl
    obtain ⟨i0, hi0, hu0⟩ := hex
    obtain ⟨m', rfl⟩ : ∃ m', m = m' + 1 := ⟨m - 1, by omega⟩
    have hfuel : m' + 1 + (ops.size - n) = (m' + (ops.size - n)) + 1 := by omega
    rw [hfuel]
    have hready : ∀ k i, i < k → i < n → listed.getD i true = false → ∃ i', i' ∈ Region.ready md ops listed := by
      intro k
      induction k with
      | zero => intro i h; omega
      | succ k ihk =>
        intro i hik hin hu
        have hio : i < ops.size := by omega
        by_cases hd : ∀ e ∈ (ops[i]'hio).after, Region.binds md e = true → listed.getD e.on false = true
        · exact ⟨i, mem_ready.2 ⟨hu, ops[i]'hio, Array.getElem?_eq_getElem hio, hd⟩⟩
        have hd' : ∃ e ∈ (ops[i]'hio).after, Region.binds md e = true ∧ listed.getD e.on false ≠ true := by
          refine Classical.byContradiction fun hh => hd fun e he hb => ?_
          refine Classical.byContradiction fun hne => hh ⟨e, he, hb, hne⟩
        obtain ⟨e, he, hb, hne⟩ := hd'
        have hlt := hdag i hin _ (Array.getElem?_eq_getElem hio) e he hb
        refine ihk e.on (by omega) (by omega) ?_
        have hsz := inv.size
        exact getD_in (by omega) (by simpa using hne)
    obtain ⟨ir, hir⟩ := hready (i0 + 1) i0 (by omega) hi0 hu0
    refine ⟨fun h => (by rw [h] at hir; cases hir), fun i hi => ?_⟩
    have hin : i < n := by
      rcases Nat.lt_or_ge i n with h | h
      · exact h
      rcases hsc with hsc | ⟨hs, hc⟩
      · obtain ⟨_, oi, hoi, _⟩ := mem_ready.1 hi
        have := (Array.getElem?_eq_some_iff.1 hoi).1
        omega
      rcases Nat.lt_or_ge n ops.size with hn' | hn'
      · exact absurd hi (tail_waits hs hc hn' inv _ i0 rfl hi0 hu0 i h)
      obtain ⟨_, oi, hoi, _⟩ := mem_ready.1 hi
      have := (Array.getElem?_eq_some_iff.1 hoi).1
      omega
    have hu := (mem_ready.1 hi).1
    have hsz := inv.size
    have hlt : i < listed.size := by omega
    have hdec := left_set hin hu hlt
    refine wpOp_mono (fun a' w' hJ' => ?_) (step i hin listed a w inv hi hJ)
    have hle := ih (left n (listed.setIfInBounds i true)) (by omega) (listed.setIfInBounds i true) a' w' rfl (inv.set hi hin) hJ'
    exact more_fuel hle (by omega)
def fill2L (ds : Nat → Bool) (f : Nat → Value) : Nat → List Value → List Value
  | _, [] => []
  | k, b :: r => (if ds k then f k else b) :: fill2L ds f (k + 1) r
def fill2 (ds : Nat → Bool) (base : List Value) (f : Nat → Value) : Array Value := (fill2L ds f 0 base).toArray
theorem fill2L_get (ds : Nat → Bool) (f : Nat → Value) : ∀ (base : List Value) (k j : Nat), (fill2L ds f k base)[j]? = (base[j]?).map fun b => if ds (k + j) then f (k + j) else b
  | [], k, j => by simp [fill2L]
  | b :: r, k, 0 => by simp [fill2L]
  | b :: r, k, j + 1 => by
    simp only [fill2L, List.getElem?_cons_succ, fill2L_get ds f r (k + 1) j]
    have e : k + 1 + j = k + (j + 1) := by omega
    rw [e]
theorem fill2_set {ds : Nat → Bool} {base : List Value} {f : Nat → Value} {d : Nat} (v : Value) (hb : ds d = true) : (fill2 ds base f).setIfInBounds d v = fill2 ds base (upd f d v) := by
  apply Array.ext_getElem?
  intro j
  simp only [fill2, List.setIfInBounds_toArray, List.getElem?_toArray, List.getElem?_set, fill2L_get, Nat.zero_add]
  by_cases e : d = j
  · subst e
    rcases Nat.lt_or_ge d base.length with hl | hl
    · have hlen : d < (fill2L ds f 0 base).length := by
        rcases Nat.lt_or_ge d (fill2L ds f 0 base).length with h | h
        · exact h
        exfalso
        have h3 := fill2L_get ds f base 0 d
        rw [List.getElem?_eq_none h, List.getElem?_eq_getElem hl] at h3
        cases h3
      simp [hl, hlen, hb, upd]
    have hlen : ¬ d < (fill2L ds f 0 base).length := by
      intro h
      have h3 := fill2L_get ds f base 0 d
      rw [List.getElem?_eq_getElem h, List.getElem?_eq_none hl] at h3
      cases h3
    simp [hlen, List.getElem?_eq_none hl]
  rw [if_neg e]
  congr 1
  funext b
  split
  · simp [upd, Ne.symm e]
  rfl
def Step2 (P : Program) (l : List Oper) (F : (Nat → Value) → Array Value) (D : List Deferred) (w0 : World) (Ψ : Nat → Value → World → Prop) (isA : Nat → Bool) (i : Nat) (o : Oper) : Prop :=
  ∀ (f : Nat → Value) (w : World), Below w0.heap.size w0 w → Deps l Ψ f w o.after.toList → ∀ Q : Exit → Act → World → Prop,
    (∀ v w', Ψ i v w' → Below w.heap.size w w' → (isA i = true → ∃ g, v = .pointer (some ⟨g, 0, none⟩) ∧ w.heap.size ≤ g) → Q .normal ((Act.mk (F f) D).put o.dst v) w') → wpList P l.toArray Q [o] ⟨F f, D⟩ w
def Steps2 (P : Program) (l : List Oper) (F : (Nat → Value) → Array Value) (D : List Deferred) (w0 : World) (Ψ : Nat → Value → World → Prop) (isA : Nat → Bool) : Nat → List Oper → Prop
  | _, [] => True
  | i, o :: r => (Step2 P l F D w0 Ψ isA i o) ∧ Steps2 P l F D w0 Ψ isA (i + 1) r
theorem steps2_cons {P : Program} {l : List Oper} {F : (Nat → Value) → Array Value} {D : List Deferred} {w0 : World} {Ψ : Nat → Value → World → Prop} {isA : Nat → Bool} {i : Nat} {o : Oper} {r : List Oper}
    (h : Step2 P l F D w0 Ψ isA i o) (h2 : Steps2 P l F D w0 Ψ isA (i + 1) r) : Steps2 P l F D w0 Ψ isA i (o :: r) := ⟨h, h2⟩
theorem steps2_at {l : List Oper} {F : (Nat → Value) → Array Value} {D : List Deferred} {w0 : World} {Ψ : Nat → Value → World → Prop} {isA : Nat → Bool} : ∀ (r : List Oper) (k j : Nat) (o : Oper),
    Steps2 P l F D w0 Ψ isA k r → r[j]? = some o → Step2 P l F D w0 Ψ isA (k + j) o
  | [], _, _, _, _, h => by simp at h
  | x :: r, k, 0, o, hs, h => by
    simp at h
    subst h
    exact hs.1
  | x :: r, k, j + 1, o, hs, h => by
    have := steps2_at r (k + 1) j o hs.2 (by simpa using h)
    rw [show k + (j + 1) = k + 1 + j by omega]
    exact this
def dst2B (l : List Oper) (n : Nat) (ds : Nat → Bool) : Bool := (l.take n).all fun o => match o.dst with | some d => ds d | none => false
theorem fill2L_id (ds : Nat → Bool) (f : Nat → Value) : ∀ (base : List Value) (k : Nat), (∀ j b, base[j]? = some b → f (k + j) = b) → fill2L ds f k base = base
  | [], _, _ => rfl
  | b :: r, k, h => by
    simp only [fill2L]
    rw [fill2L_id ds f r (k + 1) fun j b' hb => by rw [show k + 1 + j = k + (j + 1) by omega]; exact h (j + 1) b' (by simpa using hb)]
    congr 1
    split
    · exact h 0 b (by simp)
    rfl
theorem wp_region_grow2 {id : Nat} {Q : Exit → Act → World → Prop} {w : World} {l : List Oper} (n : Nat) (ds : Nat → Bool) (base : List Value) (D : List Deferred) (Ψ : Nat → Value → World → Prop) (isA : Nat → Bool) (F : (Nat → Value) → Array Value) (hF : ∀ f, fill2 ds base f = F f)
    (hm : P.follows .mixedOrders = true) (hB : tail2B .any l.toArray n = true) (hdag : dagB .any l.toArray n = true) (hdst : dst2B l n ds = true) (hap : apartB l n = true)
    (stab : ∀ j v w w', Ψ j v w → Below w.heap.size w w' → Ψ j v w')
    (old : ∀ j v w, isA j = true → Ψ j v w → ∀ g, v = .pointer (some ⟨g, 0, none⟩) → g < w.heap.size)
    (steps : Steps2 P l F D w Ψ isA 0 (l.take n))
    (done : ∀ f w', Below w.heap.size w w' → (∀ j o d, j < n → l[j]? = some o → o.dst = some d → Ψ j (f d) w') →
      (∀ i j oi oj di dj, i < n → j < n → i ≠ j → l[i]? = some oi → l[j]? = some oj → oi.dst = some di → oj.dst = some dj → isA i = true → isA j = true → f di ≠ f dj) → wpList P l.toArray Q (l.drop n) ⟨F f, D⟩ w') :
    (Code.region id l.toArray true).wp P Q ⟨base.toArray, D⟩ w := by
  refine wp_region_any hm ?_
  have hn : n ≤ l.toArray.size := by
    simp only [tail2B, Bool.and_eq_true, decide_eq_true_eq] at hB
    exact hB.1.1
  have hnl : n ≤ l.length := by simpa using hn
  have hds : ∀ j o, j < n → l[j]? = some o → ∃ d, o.dst = some d ∧ ds d = true := by
    intro j o hj ho
    have h1 := List.all_eq_true.1 hdst o (List.mem_iff_getElem?.2 ⟨j, by rw [List.getElem?_take_of_lt hj]; exact ho⟩)
    cases hd : o.dst with
    | none => rw [hd] at h1; cases h1
    | some d =>
      rw [hd] at h1
      exact ⟨d, rfl, h1⟩
  have hne : ∀ i j oi oj d, i < n → j < n → i ≠ j → l[i]? = some oi → l[j]? = some oj → oi.dst = some d → oj.dst ≠ some d := by
    intro i j oi oj d hi' hj hij hoi hoj hd hd'
    have h1 := List.all_eq_true.1 (List.all_eq_true.1 hap i (List.mem_range.2 hi')) j (List.mem_range.2 hj)
    simp only [Bool.or_eq_true, decide_eq_true_eq, hoi, hoj, Option.bind_some, hd, hd'] at h1
    rcases h1 with h1 | h1
    · exact hij h1
    exact h1 rfl
  let J : Array Bool → Act → World → Prop := fun listed a w' => ∃ f, a = ⟨F f, D⟩ ∧ Below w.heap.size w w' ∧ (∀ j o d, j < n → l[j]? = some o → o.dst = some d → listed.getD j false = true → Ψ j (f d) w') ∧
      (∀ i j oi oj di dj, i < n → j < n → i ≠ j → l[i]? = some oi → l[j]? = some oj → oi.dst = some di → oj.dst = some dj → isA i = true → isA j = true → listed.getD i false = true → listed.getD j false = true → f di ≠ f dj)
  have key := wpAny_inv2 (P := P) (md := .any) (Q := Q) hB J (fun i hin listed a w1 inv hi' hJ => by
      obtain ⟨f, rfl, hb, hΨ, hN⟩ := hJ
      obtain ⟨_, o, ho, hall⟩ := mem_ready.1 hi'
      have ho' : l[i]? = some o := by simpa using ho
      obtain ⟨d, hd, hds'⟩ := hds i o hin ho'
      have hst := steps2_at (l.take n) 0 i o steps (by rw [List.getElem?_take_of_lt hin]; exact ho')
      rw [Nat.zero_add] at hst
      have h1 := hst f w1 hb (deps_of _ fun e he hbd oe de hoe hde => by
          have hlt := dagB_spec hdag i hin o ho e (by simpa using he) hbd
          exact hΨ e.on oe de (by omega) hoe hde (hall e (by simpa using he) hbd))
        (fun x a' w' => match x with | .normal => J (listed.setIfInBounds i true) a' w' | y => Q y a' w')
        (fun v w' hv hw' hnew => by
          refine ⟨upd f d v, ?_, hb.trans (hw'.mono hb.size), fun j oj dj hj hoj hdj hl => ?_, ?_⟩
          · simp only [Act.put, hd]
            rw [← hF, ← hF, fill2_set v hds']
          · by_cases e : i = j
            · subst e
              have : oj = o := Option.some.inj (hoj.symm.trans ho')
              subst this
              have : dj = d := Option.some.inj (hdj.symm.trans hd)
              subst this
              simpa [upd] using hv
            have hdne : dj ≠ d := fun h => hne i j o oj d hin hj e ho' hoj hd (by rw [hdj, h])
            have : upd f d v dj = f dj := by simp [upd, hdne]
            rw [this]
            rw [getD_set_ne false e] at hl
            exact stab j _ _ _ (hΨ j oj dj hj hoj hdj hl) hw'
          intro i1 j1 oi oj di dj hi1 hj1 hij hoi hoj hdi hdj hai haj hli hlj
          have other : ∀ (k : Nat) (ok : Oper) (dk : Nat), k < n → l[k]? = some ok → ok.dst = some dk → k ≠ i → isA k = true → (listed.setIfInBounds i true).getD k false = true → isA i = true → upd f d v d ≠ upd f d v dk := by
            intro k ok dk hk hok hdk hki hak hlk hai'
            have hdne : dk ≠ d := fun h => hne i k o ok d hin hk (Ne.symm hki) ho' hok hd (by rw [hdk, h])
            have e1 : upd f d v d = v := by simp [upd]
            have e2 : upd f d v dk = f dk := by simp [upd, hdne]
            rw [e1, e2]
            rw [getD_set_ne false (Ne.symm hki)] at hlk
            obtain ⟨g, hg, hge⟩ := hnew hai'
            intro hv
            have := old k (f dk) w1 hak (hΨ k ok dk hk hok hdk hlk) g (by rw [← hv, hg])
            omega
          by_cases e : i1 = i
          · subst e
            have : oi = o := Option.some.inj (hoi.symm.trans ho')
            subst this
            have : di = d := Option.some.inj (hdi.symm.trans hd)
            subst this
            exact other j1 oj dj hj1 hoj hdj (Ne.symm hij) haj hlj hai
          by_cases e2 : j1 = i
          · subst e2
            have : oj = o := Option.some.inj (hoj.symm.trans ho')
            subst this
            have : dj = d := Option.some.inj (hdj.symm.trans hd)
            subst this
            exact (other i1 oi di hi1 hoi hdi e hai hli haj).symm
          have h1 : di ≠ d := fun h => hne i i1 o oi d hin hi1 (Ne.symm e) ho' hoi hd (by rw [hdi, h])
          have h2 : dj ≠ d := fun h => hne i j1 o oj d hin hj1 (Ne.symm e2) ho' hoj hd (by rw [hdj, h])
          have e3 : upd f d v di = f di := by simp [upd, h1]
          have e4 : upd f d v dj = f dj := by simp [upd, h2]
          rw [e3, e4]
          rw [getD_set_ne false (Ne.symm e)] at hli
          rw [getD_set_ne false (Ne.symm e2)] at hlj
          exact hN i1 j1 oi oj di dj hi1 hj1 hij hoi hoj hdi hdj hai haj hli hlj)
      unfold wpOp
      simp only [ho]
      unfold wpList at h1
      split
      · rename_i hw
        rw [if_pos hw] at h1
        rcases h1 with h1 | ⟨h1, h2⟩
        · exact .inl (Oper.wp_to (fun a w h => h) (fun c a w h => h) (fun h => h) h1)
        exact .inr ⟨h1, h2⟩
      rename_i hw
      rw [if_neg hw] at h1
      exact h1)
    (fun i hin o ho e he hb => dagB_spec hdag i hin o ho e he hb)
    (fun a w' hJ => by
      obtain ⟨f, rfl, hb, hΨ, hN⟩ := hJ
      have hl : ∀ j, j < n → (Array.replicate n true ++ Array.replicate (l.toArray.size - n) false).getD j false = true := by
       intro j hj
       have e : (Array.replicate n true ++ Array.replicate (l.toArray.size - n) false)[j]? = some true := by
         rw [Array.getElem?_append_left (by simpa using hj)]
         simp [hj]
       simp only [Array.getD_eq_getD_getElem?, e, Option.getD_some]
      exact done f w' hb (fun j o d hj ho hd => hΨ j o d hj ho hd (hl j hj)) fun i j oi oj di dj hi hj hij hoi hoj hdi hdj hai haj => hN i j oi oj di dj hi hj hij hoi hoj hdi hdj hai haj (hl i hi) (hl j hj))
    (left n (Array.replicate l.toArray.size false)) (Array.replicate l.toArray.size false) ⟨base.toArray, D⟩ { w with drawn := w.drawn + 1 } rfl
    ⟨by simp, fun j oj _ hl => (by rw [getD_replicate_false] at hl; cases hl), fun t _ ht => getD_in (by simpa using ht) (getD_replicate_false _ _)⟩
    ⟨fun k => base.getD k undef, by
        have := fill2L_id ds (fun k => base.getD k undef) base 0 (fun j b hb => by simp [hb])
        rw [← hF]; simp only [fill2, this], (Below.refl _ _).drew, (fun j o d _ _ _ hl => by rw [getD_replicate_false] at hl; cases hl), fun i j oi oj di dj _ _ _ _ _ _ _ _ _ hl => by rw [getD_replicate_false] at hl; cases hl⟩
  refine more_fuel key ?_
  have : left n (Array.replicate l.toArray.size false) ≤ n := by
    unfold left
    exact Nat.le_trans (List.length_filter_le _ _) (by simp)
  omega
end
end Go.Proofs.YtnopjabcdloepaaGreatDoor
namespace Go.Proofs.YtnopjabcdloepaaGreatDoor
open Go.RowKit
def Eq1 (x : Value) : Value → World → Prop := fun v _ => v = x
def NewB (B0 : Nat) (t : TypeId) (cs : Array Value) : Value → World → Prop := fun v w => ∃ g, v = .pointer (some ⟨g, 0, none⟩) ∧ B0 ≤ g ∧ Blk w g t cs
def Sta (R : Value → World → Prop) : Prop := ∀ v w w', R v w → Below w.heap.size w w' → R v w'
theorem sta_eq (x : Value) : Sta (Eq1 x) := fun _ _ _ h _ => h
theorem sta_new (B0 : Nat) (t : TypeId) (cs : Array Value) : Sta (NewB B0 t cs) := fun _ _ _ ⟨g, h1, h2, h3⟩ hb => ⟨g, h1, h2, h3.below hb⟩
theorem sta_all : ∀ (l : List (Value → World → Prop)), (∀ R, R ∈ l → Sta R) → ∀ j v w w', l.getD j (fun _ _ => True) v w → Below w.heap.size w w' → l.getD j (fun _ _ => True) v w'
  | [], _, _, _, _, _, _, _ => by simp
  | R :: l, h, 0, v, w, w', h1, hb => h R (List.mem_cons_self ..) v w w' h1 hb
  | R :: l, h, j + 1, v, w, w', h1, hb => sta_all l (fun R' hR' => h R' (List.mem_cons_of_mem _ hR')) j v w w' h1 hb
theorem new_lt {B0 : Nat} {t : TypeId} {cs : Array Value} {v : Value} {w : World} {g : Nat} (h : NewB B0 t cs v w) (e : v = .pointer (some ⟨g, 0, none⟩)) : g < w.heap.size := by
  obtain ⟨g', e', _, hb⟩ := h
  rw [e] at e'
  injection e' with e'
  injection e' with e'
  injection e' with e'
  rw [e']
  exact hb.lt
end Go.Proofs.YtnopjabcdloepaaGreatDoor
