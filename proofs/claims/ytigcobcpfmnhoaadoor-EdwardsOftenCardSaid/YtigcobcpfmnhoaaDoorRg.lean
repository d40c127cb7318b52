/- A region that draws its order, whose operations leave what was there as it was: each operation is looked at once, whatever the order. -/
import Derived.StillTail
import Derived.Below
import Derived.KernelRfl
import Derived.WalkKit
namespace Go.Proofs.YtigcobcpfmnhoaaDoor
open Go.RowKit

section
variable {P : Program} {ops : Array Oper} {md : Region.Mode}

/-- all operations from n on stand in one row behind the others -/
def tailB (md : Region.Mode) (ops : Array Oper) (n : Nat) : Bool :=
  decide (n < ops.size) && Region.sinkB md ops n && Region.chainB md ops n && Region.seqB md ops (ops.size - n) n ((Array.replicate n true) ++ Array.replicate (ops.size - n) false)

/-- how many of the first n are not listed -/
def left (n : Nat) (listed : Array Bool) : Nat := ((List.range n).filter fun i => !listed.getD i true).length

theorem filter_len_lt {p q : Nat → Bool} {i : Nat} : ∀ l : List Nat, i ∈ l → (∀ j, q j = true → p j = true) → p i = true → q i = false → (l.filter q).length < (l.filter p).length
  | [], h, _, _, _ => by cases h
  | x :: l, h, hpq, hp, hq => by
    have hle : (l.filter q).length ≤ (l.filter p).length := by
      clear h
      induction l with
      | nil => simp
      | cons y l ih =>
        simp only [List.filter_cons]
        by_cases h1 : q y = true
        · rw [if_pos h1, if_pos (hpq y h1)]; simpa using ih
        rw [if_neg h1]
        split
        · simp only [List.length_cons]; omega
        exact ih
    by_cases e : x = i
    · subst e
      simp only [List.filter_cons, hp, hq, if_true]
      simp
      omega
    have hi : i ∈ l := by
      rcases List.mem_cons.1 h with h | h
      · exact absurd h.symm e
      exact h
    have ih := filter_len_lt l hi hpq hp hq
    simp only [List.filter_cons]
    by_cases h1 : q x = true
    · rw [if_pos h1, if_pos (hpq x h1)]; simpa using ih
    rw [if_neg h1]
    split
    · simp only [List.length_cons]; omega
    exact ih

theorem left_set {n i : Nat} {listed : Array Bool} (hi : i < n) (hl : listed.getD i true = false) (hs : i < listed.size) : left n (listed.setIfInBounds i true) < left n listed := by
  unfold left
  refine filter_len_lt (i := i) _ (List.mem_range.2 hi) (fun j h => ?_) (by simpa using hl) ?_
  · by_cases e : i = j
    · subst e
      simp [hs] at h
    rwa [getD_set_ne true e] at h
  simp [hs]

theorem left_zero {n : Nat} {listed : Array Bool} (h : left n listed = 0) (i : Nat) (hi : i < n) : listed.getD i true = true := by
  unfold left at h
  have h1 := List.eq_nil_of_length_eq_zero h
  cases hb : listed.getD i true with
  | true => rfl
  | false =>
    have : i ∈ (List.range n).filter fun i => !listed.getD i true := List.mem_filter.2 ⟨List.mem_range.2 hi, by simp [hb]⟩
    rw [h1] at this
    cases this

theorem head_all {n : Nat} {listed : Array Bool} (inv : HeadInv md ops n listed) (hn : n ≤ ops.size) (h : ∀ i, i < n → listed.getD i true = true) :
    listed = (Array.replicate n true) ++ Array.replicate (ops.size - n) false := by
  have hs := inv.size
  apply Array.ext
  · simp [hs]; omega
  intro i h1 h2
  rcases Nat.lt_or_ge i n with hi | hi
  · have := h i hi
    rw [Array.getElem_append_left (by simpa using hi)]
    simp [h1] at this
    simp [this]
  have := inv.tail i hi (by omega)
  rw [Array.getElem_append_right (by simpa using hi)]
  simp [h1] at this
  simp [this]

theorem more_fuel1 {Q : Exit → Act → World → Prop} : ∀ (f : Nat) (listed : Array Bool) (a : Act) (w : World), wpAny P md ops Q f listed a w → wpAny P md ops Q (f + 1) listed a w
  | 0, listed, a, w, h => ⟨fun _ => h.2, fun i hi => by rw [h.1] at hi; cases hi⟩
  | f + 1, listed, a, w, h => ⟨h.1, fun i hi => wpOp_mono (fun a' w' h' => more_fuel1 f _ a' w' h') (h.2 i hi)⟩
theorem more_fuel {Q : Exit → Act → World → Prop} {f g : Nat} {listed : Array Bool} {a : Act} {w : World} (h : wpAny P md ops Q f listed a w) (hfg : f ≤ g) : wpAny P md ops Q g listed a w := by
  obtain ⟨k, rfl⟩ : ∃ k, g = f + k := ⟨g - f, by omega⟩
  clear hfg
  induction k with
  | zero => exact h
  | succ k ih => exact more_fuel1 _ _ _ _ ih

theorem wpAny_inv {Q : Exit → Act → World → Prop} {n : Nat} (hB : tailB md ops n = true) (J : Array Bool → Act → World → Prop)
    (step : ∀ i, i < n → ∀ listed a w, HeadInv md ops n listed → i ∈ Region.ready md ops listed → J listed a w → wpOp P ops Q i (fun a' w' => J (listed.setIfInBounds i true) a' w') a w)
    (hdag : ∀ i, i < n → ∀ o, ops[i]? = some o → ∀ e ∈ o.after, Region.binds md e = true → e.on < i)
    (done : ∀ a w, J ((Array.replicate n true) ++ Array.replicate (ops.size - n) false) a w → wpList P ops Q (ops.toList.drop n) a w) :
    ∀ (m : Nat) (listed : Array Bool) (a : Act) (w : World), left n listed = m → HeadInv md ops n listed → J listed a w → wpAny P md ops Q (m + (ops.size - n)) listed a w := by
  simp only [tailB, Bool.and_eq_true, decide_eq_true_eq] at hB
  obtain ⟨⟨⟨hn, hs⟩, hc⟩, hq⟩ := hB
  intro m
  induction m using Nat.strongRecOn with
  | _ m ih =>
    intro listed a w hm inv hJ
    by_cases h0 : left n listed = 0
    · have hall := head_all inv (by omega) (left_zero h0)
      subst hall
      have hm0 : m = 0 := by omega
      subst hm0
      have h1 := done a w hJ
      have hl : (ops.toList.drop n).length = ops.size - n := by simp
      have h2 := wpAny_of_seq (md := md) (Q' := Q) (ops.toList.drop n) n ((Array.replicate n true) ++ Array.replicate (ops.size - n) false) a w
        (fun j => by rw [List.getElem?_drop]; simp) (by rw [hl]; exact hq) h1
      rw [hl] at h2
      rw [Nat.zero_add]
      exact h2
    -- some head operation is not listed: the least such is ready
    have hex : ∃ i, i < n ∧ listed.getD i true = false := by
      rcases Classical.em (∃ i, i < n ∧ listed.getD i true = false) with h | h
      · exact h
      exfalso
      apply h0
      unfold left
      have : ((List.range n).filter fun i => !listed.getD i true) = [] := by
        rw [List.filter_eq_nil_iff]
        intro i hi hh
        exact h ⟨i, List.mem_range.1 hi, by simpa using hh⟩
      rw [this]; rfl
    obtain ⟨i0, hi0, hu0⟩ := hex
    obtain ⟨m', rfl⟩ : ∃ m', m = m' + 1 := ⟨m - 1, by omega⟩
    have hfuel : m' + 1 + (ops.size - n) = (m' + (ops.size - n)) + 1 := by omega
    rw [hfuel]
    have hready : ∀ k i, i < k → i < n → listed.getD i true = false → ∃ i', i' ∈ Region.ready md ops listed := by
      intro k
      induction k with
      | zero => intro i h; omega
      | succ k ihk =>
        intro i hik hin hu
        have hio : i < ops.size := by omega
        by_cases hd : ∀ e ∈ (ops[i]'hio).after, Region.binds md e = true → listed.getD e.on false = true
        · exact ⟨i, mem_ready.2 ⟨hu, ops[i]'hio, Array.getElem?_eq_getElem hio, hd⟩⟩
        have hd' : ∃ e ∈ (ops[i]'hio).after, Region.binds md e = true ∧ listed.getD e.on false ≠ true := by
          refine Classical.byContradiction fun hh => hd fun e he hb => ?_
          refine Classical.byContradiction fun hne => hh ⟨e, he, hb, hne⟩
        obtain ⟨e, he, hb, hne⟩ := hd'
        have hlt := hdag i hin _ (Array.getElem?_eq_getElem hio) e he hb
        refine ihk e.on (by omega) (by omega) ?_
        have hsz := inv.size
        exact getD_in (by omega) (by simpa using hne)
    obtain ⟨ir, hir⟩ := hready (i0 + 1) i0 (by omega) hi0 hu0
    refine ⟨fun h => (by rw [h] at hir; cases hir), fun i hi => ?_⟩
    have hin : i < n := by
      rcases Nat.lt_or_ge i n with h | h
      · exact h
      exact absurd hi (tail_waits hs hc hn inv _ i0 rfl hi0 hu0 i h)
    have hu := (mem_ready.1 hi).1
    have hsz := inv.size
    have hlt : i < listed.size := by omega
    have hdec := left_set hin hu hlt
    refine wpOp_mono (fun a' w' hJ' => ?_) (step i hin listed a w inv hi hJ)
    have hle := ih (left n (listed.setIfInBounds i true)) (by omega) (listed.setIfInBounds i true) a' w' rfl (inv.set hi hin) hJ'
    -- more fuel than wanted
    exact more_fuel hle (by omega)

/-- the edges go back -/
def dagB (md : Region.Mode) (ops : Array Oper) (n : Nat) : Bool :=
  (List.range n).all fun i => ((ops[i]?).map fun o => o.after.all fun e => !Region.binds md e || decide (e.on < i)).getD true
theorem dagB_spec {n : Nat} (h : dagB md ops n = true) (i : Nat) (hi : i < n) (o : Oper) (ho : ops[i]? = some o) (e : Edge) (he : e ∈ o.after) (hb : Region.binds md e = true) : e.on < i := by
  have h1 := List.all_eq_true.1 h i (List.mem_range.2 hi)
  rw [ho] at h1
  simp only [Option.map_some, Option.getD_some] at h1
  have h2 := Array.all_eq_true'.1 h1 e he
  simp only [Bool.or_eq_true, Bool.not_eq_true', decide_eq_true_eq] at h2
  rcases h2 with h2 | h2
  · rw [hb] at h2; cases h2
  exact h2

def upd (f : Nat → Value) (d : Nat) (v : Value) : Nat → Value := fun k => if k = d then v else f k
/-- a frame in which the slots from lo up to hi are given by f -/
def fillL (lo hi : Nat) (f : Nat → Value) : Nat → List Value → List Value
  | _, [] => []
  | k, b :: r => (if Nat.ble lo k && Nat.blt k hi then f k else b) :: fillL lo hi f (k + 1) r
def fill (base : List Value) (lo hi : Nat) (f : Nat → Value) : Array Value := (fillL lo hi f 0 base).toArray

theorem fillL_get (lo hi : Nat) (f : Nat → Value) : ∀ (base : List Value) (k j : Nat), (fillL lo hi f k base)[j]? = (base[j]?).map fun b => if Nat.ble lo (k + j) && Nat.blt (k + j) hi then f (k + j) else b
  | [], k, j => by simp [fillL]
  | b :: r, k, 0 => by simp [fillL]
  | b :: r, k, j + 1 => by
    simp only [fillL, List.getElem?_cons_succ, fillL_get lo hi f r (k + 1) j]
    have e : k + 1 + j = k + (j + 1) := by omega
    rw [e]

theorem fill_set {base : List Value} {lo hi : Nat} {f : Nat → Value} {d : Nat} (v : Value) (h1 : lo ≤ d) (h2 : d < hi) : (fill base lo hi f).setIfInBounds d v = fill base lo hi (upd f d v) := by
  apply Array.ext_getElem?
  intro j
  simp only [fill, List.setIfInBounds_toArray, List.getElem?_toArray, List.getElem?_set, fillL_get, Nat.zero_add]
  by_cases e : d = j
  · subst e
    have hb : (Nat.ble lo d && Nat.blt d hi) = true := by
      simp only [Bool.and_eq_true, Nat.ble_eq, Nat.blt_eq]; omega
    rcases Nat.lt_or_ge d base.length with hl | hl
    · have hlen : d < (fillL lo hi f 0 base).length := by
        rcases Nat.lt_or_ge d (fillL lo hi f 0 base).length with h | h
        · exact h
        exfalso
        have h3 := fillL_get lo hi f base 0 d
        rw [List.getElem?_eq_none h, List.getElem?_eq_getElem hl] at h3
        cases h3
      simp [hl, hlen, hb, upd]
    have hlen : ¬ d < (fillL lo hi f 0 base).length := by
      intro h
      have h3 := fillL_get lo hi f base 0 d
      rw [List.getElem?_eq_getElem h, List.getElem?_eq_none hl] at h3
      cases h3
    simp [hlen, List.getElem?_eq_none hl]
  rw [if_neg e]
  congr 1
  funext b
  split
  · simp [upd, Ne.symm e]
  rfl

/-- what an operation hangs on: of each operation that it waits for, that what it yields is as it should be -/
def Deps (l : List Oper) (Ψ : Nat → Value → World → Prop) (f : Nat → Value) (w : World) : List Edge → Prop
  | [] => True
  | e :: r => (match (l[e.on]?).bind (·.dst) with | some d => Region.binds .any e = true → Ψ e.on (f d) w | none => True) ∧ Deps l Ψ f w r

theorem deps_of {l : List Oper} {Ψ : Nat → Value → World → Prop} {f : Nat → Value} {w : World} : ∀ es : List Edge,
    (∀ e ∈ es, Region.binds .any e = true → ∀ o d, l[e.on]? = some o → o.dst = some d → Ψ e.on (f d) w) → Deps l Ψ f w es
  | [], _ => trivial
  | e :: r, h => by
    refine ⟨?_, deps_of r fun e' he' => h e' (List.mem_cons_of_mem _ he')⟩
    cases ho : l[e.on]? with
    | none => simp
    | some o =>
      cases hd : o.dst with
      | none => simp [hd]
      | some d =>
        simp only [Option.bind_some, hd]
        exact fun hb => h e (List.mem_cons_self ..) hb o d ho hd

/-- one operation, from a frame of which what it waits for is known -/
def StepOk (P : Program) (l : List Oper) (F : (Nat → Value) → Array Value) (D : List Deferred) (w0 : World) (Ψ : Nat → Value → World → Prop) (i : Nat) (o : Oper) : Prop :=
  ∀ (f : Nat → Value) (w : World), Below w0.heap.size w0 w → Deps l Ψ f w o.after.toList → ∀ Q : Exit → Act → World → Prop,
    (∀ v w', Ψ i v w' → Below w.heap.size w w' → Q .normal ((Act.mk (F f) D).put o.dst v) w') → wpList P l.toArray Q [o] ⟨F f, D⟩ w

def StepsOk (P : Program) (l : List Oper) (F : (Nat → Value) → Array Value) (D : List Deferred) (w0 : World) (Ψ : Nat → Value → World → Prop) : Nat → List Oper → Prop
  | _, [] => True
  | i, o :: r => (StepOk P l F D w0 Ψ i o) ∧ StepsOk P l F D w0 Ψ (i + 1) r

theorem stepsOk_at {l : List Oper} {F : (Nat → Value) → Array Value} {D : List Deferred} {w0 : World} {Ψ : Nat → Value → World → Prop} : ∀ (r : List Oper) (k j : Nat) (o : Oper),
    StepsOk P l F D w0 Ψ k r → r[j]? = some o → StepOk P l F D w0 Ψ (k + j) o
  | [], _, _, _, _, h => by simp at h
  | x :: r, k, 0, o, hs, h => by
    simp at h
    subst h
    exact hs.1
  | x :: r, k, j + 1, o, hs, h => by
    have := stepsOk_at r (k + 1) j o hs.2 (by simpa using h)
    rw [show k + (j + 1) = k + 1 + j by omega]
    exact this

/-- the first n operations have their slots from lo up to hi -/
def dstB (l : List Oper) (n lo hi : Nat) : Bool := (l.take n).all fun o => match o.dst with | some d => Nat.ble lo d && Nat.blt d hi | none => false
/-- no two have one slot -/
def apartB (l : List Oper) (n : Nat) : Bool := (List.range n).all fun i => (List.range n).all fun j => decide (i = j) || decide ((l[i]?).bind (·.dst) ≠ (l[j]?).bind (·.dst))


theorem Oper.wp_to {o : Oper} {a : Act} {w : World} {K K' : Act → World → Prop} {Q Q' : Exit → Act → World → Prop} (h : ∀ a w, K a w → K' a w) (hp : ∀ c a w, Q (.panic c) a w → Q' (.panic c) a w) (ho : LetsOut Q → LetsOut Q')
    (hh : o.wp P a w K Q) : o.wp P a w K' Q' := by
  unfold Oper.wp at *
  generalize (execOp a.eval o).run P w = r at *
  cases r with
  | ok n w' =>
    cases n <;> simp only [Oper.upon] at hh ⊢ <;>
      first
        | exact h _ _ hh
        | exact Calls.mono hh (fun e w'' he => by cases e <;> first | exact h _ _ he | exact hp _ _ _ he | exact ho he)
        | exact Rows.mono hh (fun _ _ he => h _ _ he)
  | halt x w' => cases x <;> simp only [Oper.upon] at hh ⊢ <;> first | exact hp _ _ _ hh | exact hh

theorem fillL_id (lo hi : Nat) (f : Nat → Value) : ∀ (base : List Value) (k : Nat), (∀ j b, base[j]? = some b → f (k + j) = b) → fillL lo hi f k base = base
  | [], _, _ => rfl
  | b :: r, k, h => by
    simp only [fillL]
    rw [fillL_id lo hi f r (k + 1) fun j b' hb => by rw [show k + 1 + j = k + (j + 1) by omega]; exact h (j + 1) b' (by simpa using hb)]
    congr 1
    split
    · exact h 0 b (by simp)
    rfl

theorem wp_region_grow {id : Nat} {Q : Exit → Act → World → Prop} {w : World} {l : List Oper} (n lo hi : Nat) (base : List Value) (D : List Deferred) (Ψ : Nat → Value → World → Prop) (F : (Nat → Value) → Array Value) (hF : ∀ f, fill base lo hi f = F f)
    (hm : P.follows .mixedOrders = true) (hB : tailB .any l.toArray n = true) (hdag : dagB .any l.toArray n = true) (hdst : dstB l n lo hi = true) (hap : apartB l n = true)
    (stab : ∀ j v w w', Ψ j v w → Below w.heap.size w w' → Ψ j v w')
    (steps : StepsOk P l F D w Ψ 0 (l.take n))
    (done : ∀ f w', Below w.heap.size w w' → (∀ j o d, j < n → l[j]? = some o → o.dst = some d → Ψ j (f d) w') → wpList P l.toArray Q (l.drop n) ⟨F f, D⟩ w') :
    (Code.region id l.toArray true).wp P Q ⟨base.toArray, D⟩ w := by
  refine wp_region_any hm ?_
  have hn : n < l.toArray.size := by
    simp only [tailB, Bool.and_eq_true, decide_eq_true_eq] at hB
    exact hB.1.1.1
  have hnl : n < l.length := by simpa using hn
  have hds : ∀ j o, j < n → l[j]? = some o → ∃ d, o.dst = some d ∧ lo ≤ d ∧ d < hi := by
    intro j o hj ho
    have h1 := List.all_eq_true.1 hdst o (List.mem_iff_getElem?.2 ⟨j, by rw [List.getElem?_take_of_lt hj]; exact ho⟩)
    cases hd : o.dst with
    | none => rw [hd] at h1; cases h1
    | some d =>
      rw [hd] at h1
      simp only [Bool.and_eq_true, Nat.ble_eq, Nat.blt_eq] at h1
      exact ⟨d, rfl, h1.1, h1.2⟩
  have hne : ∀ i j oi oj d, i < n → j < n → i ≠ j → l[i]? = some oi → l[j]? = some oj → oi.dst = some d → oj.dst ≠ some d := by
    intro i j oi oj d hi' hj hij hoi hoj hd hd'
    have h1 := List.all_eq_true.1 (List.all_eq_true.1 hap i (List.mem_range.2 hi')) j (List.mem_range.2 hj)
    simp only [Bool.or_eq_true, decide_eq_true_eq, hoi, hoj, Option.bind_some, hd, hd'] at h1
    rcases h1 with h1 | h1
    · exact hij h1
    exact h1 rfl
  let J : Array Bool → Act → World → Prop := fun listed a w' => ∃ f, a = ⟨F f, D⟩ ∧ Below w.heap.size w w' ∧ ∀ j o d, j < n → l[j]? = some o → o.dst = some d → listed.getD j false = true → Ψ j (f d) w'
  have key := wpAny_inv (P := P) (md := .any) (Q := Q) hB J (fun i hin listed a w1 inv hi' hJ => by
      obtain ⟨f, rfl, hb, hΨ⟩ := hJ
      obtain ⟨_, o, ho, hall⟩ := mem_ready.1 hi'
      have ho' : l[i]? = some o := by simpa using ho
      obtain ⟨d, hd, hlo, hhi⟩ := hds i o hin ho'
      have hst := stepsOk_at (l.take n) 0 i o steps (by rw [List.getElem?_take_of_lt hin]; exact ho')
      rw [Nat.zero_add] at hst
      have h1 := hst f w1 hb (deps_of _ fun e he hbd oe de hoe hde => by
          have hlt := dagB_spec hdag i hin o ho e (by simpa using he) hbd
          exact hΨ e.on oe de (by omega) hoe hde (hall e (by simpa using he) hbd))
        (fun x a' w' => match x with | .normal => J (listed.setIfInBounds i true) a' w' | y => Q y a' w')
        (fun v w' hv hw' => by
          refine ⟨upd f d v, ?_, hb.trans (hw'.mono hb.size), fun j oj dj hj hoj hdj hl => ?_⟩
          · simp only [Act.put, hd]
            rw [← hF, ← hF, fill_set v hlo hhi]
          by_cases e : i = j
          · subst e
            have : oj = o := Option.some.inj (hoj.symm.trans ho')
            subst this
            have : dj = d := Option.some.inj (hdj.symm.trans hd)
            subst this
            simpa [upd] using hv
          have hdne : dj ≠ d := fun h => hne i j o oj d hin hj e ho' hoj hd (by rw [hdj, h])
          have : upd f d v dj = f dj := by simp [upd, hdne]
          rw [this]
          rw [getD_set_ne false e] at hl
          exact stab j _ _ _ (hΨ j oj dj hj hoj hdj hl) hw')
      unfold wpOp
      simp only [ho]
      unfold wpList at h1
      split
      · rename_i hw
        rw [if_pos hw] at h1
        rcases h1 with h1 | ⟨h1, h2⟩
        · exact .inl (Oper.wp_to (fun a w h => h) (fun c a w h => h) (fun h => h) h1)
        exact .inr ⟨h1, h2⟩
      rename_i hw
      rw [if_neg hw] at h1
      exact h1)
    (fun i hin o ho e he hb => dagB_spec hdag i hin o ho e he hb)
    (fun a w' hJ => by
      obtain ⟨f, rfl, hb, hΨ⟩ := hJ
      refine done f w' hb fun j o d hj ho hd => hΨ j o d hj ho hd ?_
      have e : (Array.replicate n true ++ Array.replicate (l.toArray.size - n) false)[j]? = some true := by
        rw [Array.getElem?_append_left (by simpa using hj)]
        simp [hj]
      simp only [Array.getD_eq_getD_getElem?, e, Option.getD_some])
    (left n (Array.replicate l.toArray.size false)) (Array.replicate l.toArray.size false) ⟨base.toArray, D⟩ { w with drawn := w.drawn + 1 } rfl
    ⟨by simp, fun j oj _ hl => (by rw [getD_replicate_false] at hl; cases hl), fun t _ ht => getD_in (by simpa using ht) (getD_replicate_false _ _)⟩
    ⟨fun k => base.getD k undef, by
        have := fillL_id lo hi (fun k => base.getD k undef) base 0 (fun j b hb => by simp [hb])
        rw [← hF]; simp only [fill, this], (Below.refl _ _).drew, fun j o d _ _ _ hl => by rw [getD_replicate_false] at hl; cases hl⟩
  refine more_fuel key ?_
  have : left n (Array.replicate l.toArray.size false) ≤ n := by
    unfold left
    exact Nat.le_trans (List.length_filter_le _ _) (by simp)
  omega

end
end Go.Proofs.YtigcobcpfmnhoaaDoor
