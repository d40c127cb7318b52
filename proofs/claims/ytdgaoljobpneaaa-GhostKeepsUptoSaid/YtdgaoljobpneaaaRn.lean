/- A region that draws its order, fourth edition: the blocks of the pointers and slices that it makes differ. -/
import Derived.Test.YtdgaoljobpneaaaRh
namespace Go.Proofs.Ytdgaoljobpneaaa
open Go.RowKit
/-- the block that a pointer or a slice leads to -/
def obk : Value → Option Nat
  | .pointer (some a) => some a.block
  | .slice (some a) _ _ => some a.block
  | _ => none
section
variable {P : Program} {ops : Array Oper} {md : Region.Mode}

def Step5 (P : Program) (l : List Oper) (F : (Nat → Value) → Array Value) (D : List Deferred) (w0 : World) (R : World → World → Prop) (Ψ : Nat → Value → World → Prop) (isA : Nat → Bool) (i : Nat) (o : Oper) : Prop :=
  ∀ (f : Nat → Value) (w : World), R w0 w → Deps l Ψ f w o.after.toList → ∀ Q : Exit → Act → World → Prop,
    (∀ v w', Ψ i v w' → R w w' → (isA i = true → ∀ g, obk v = some g → w.heap.size ≤ g) → Q .normal ((Act.mk (F f) D).put o.dst v) w') → wpList P l.toArray Q [o] ⟨F f, D⟩ w

def Steps5 (P : Program) (l : List Oper) (F : (Nat → Value) → Array Value) (D : List Deferred) (w0 : World) (R : World → World → Prop) (Ψ : Nat → Value → World → Prop) (isA : Nat → Bool) : Nat → List Oper → Prop
  | _, [] => True
  | i, o :: r => (Step5 P l F D w0 R Ψ isA i o) ∧ Steps5 P l F D w0 R Ψ isA (i + 1) r

theorem steps5_cons {P : Program} {l : List Oper} {F : (Nat → Value) → Array Value} {D : List Deferred} {w0 : World} {R : World → World → Prop} {Ψ : Nat → Value → World → Prop} {isA : Nat → Bool} {i : Nat} {o : Oper} {r : List Oper}
    (h : Step5 P l F D w0 R Ψ isA i o) (h2 : Steps5 P l F D w0 R Ψ isA (i + 1) r) : Steps5 P l F D w0 R Ψ isA i (o :: r) := ⟨h, h2⟩

theorem steps5_at {l : List Oper} {F : (Nat → Value) → Array Value} {D : List Deferred} {w0 : World} {R : World → World → Prop} {Ψ : Nat → Value → World → Prop} {isA : Nat → Bool} : ∀ (r : List Oper) (k j : Nat) (o : Oper),
    Steps5 P l F D w0 R Ψ isA k r → r[j]? = some o → Step5 P l F D w0 R Ψ isA (k + j) o
  | [], _, _, _, _, h => by simp at h
  | x :: r, k, 0, o, hs, h => by
    simp at h
    subst h
    exact hs.1
  | x :: r, k, j + 1, o, hs, h => by
    have := steps5_at r (k + 1) j o hs.2 (by simpa using h)
    rw [show k + (j + 1) = k + 1 + j by omega]
    exact this

theorem wp_region_grow5 {id : Nat} {Q : Exit → Act → World → Prop} {w : World} {l : List Oper} (n : Nat) (ds : Nat → Bool) (base : List Value) (D : List Deferred) (R : World → World → Prop) (hdrew : R w w.drew) (htrans : ∀ {a b c}, R a b → R b c → R a c) (Ψ : Nat → Value → World → Prop) (isA : Nat → Bool) (F : (Nat → Value) → Array Value) (hF : ∀ f, fill2 ds base f = F f)
    (hm : P.follows .mixedOrders = true) (hB : tail2B .any l.toArray n = true) (hdag : dagB .any l.toArray n = true) (hdst : dst2B l n ds = true) (hap : apartB l n = true)
    (stab : ∀ j v w w', Ψ j v w → R w w' → Ψ j v w')
    (old : ∀ j v w, isA j = true → Ψ j v w → ∀ g, obk v = some g → g < w.heap.size)
    (steps : Steps5 P l F D w R Ψ isA 0 (l.take n))
    (done : ∀ f w', R w w' → (∀ j o d, j < n → l[j]? = some o → o.dst = some d → Ψ j (f d) w') →
      (∀ i j oi oj di dj, i < n → j < n → i ≠ j → l[i]? = some oi → l[j]? = some oj → oi.dst = some di → oj.dst = some dj → isA i = true → isA j = true → ∀ g, obk (f di) = some g → obk (f dj) ≠ some g) → wpList P l.toArray Q (l.drop n) ⟨F f, D⟩ w') :
    (Code.region id l.toArray true).wp P Q ⟨base.toArray, D⟩ w := by
  refine wp_region_any hm ?_
  have hn : n ≤ l.toArray.size := by
    simp only [tail2B, Bool.and_eq_true, decide_eq_true_eq] at hB
    exact hB.1.1
  have hnl : n ≤ l.length := by simpa using hn
  have hds : ∀ j o, j < n → l[j]? = some o → ∃ d, o.dst = some d ∧ ds d = true := by
    intro j o hj ho
    have h1 := List.all_eq_true.1 hdst o (List.mem_iff_getElem?.2 ⟨j, by rw [List.getElem?_take_of_lt hj]; exact ho⟩)
    cases hd : o.dst with
    | none => rw [hd] at h1; cases h1
    | some d =>
      rw [hd] at h1
      exact ⟨d, rfl, h1⟩
  have hne : ∀ i j oi oj d, i < n → j < n → i ≠ j → l[i]? = some oi → l[j]? = some oj → oi.dst = some d → oj.dst ≠ some d := by
    intro i j oi oj d hi' hj hij hoi hoj hd hd'
    have h1 := List.all_eq_true.1 (List.all_eq_true.1 hap i (List.mem_range.2 hi')) j (List.mem_range.2 hj)
    simp only [Bool.or_eq_true, decide_eq_true_eq, hoi, hoj, Option.bind_some, hd, hd'] at h1
    rcases h1 with h1 | h1
    · exact hij h1
    · exact h1 rfl
  let J : Array Bool → Act → World → Prop := fun listed a w' => ∃ f, a = ⟨F f, D⟩ ∧ R w w' ∧ (∀ j o d, j < n → l[j]? = some o → o.dst = some d → listed.getD j false = true → Ψ j (f d) w') ∧
      (∀ i j oi oj di dj, i < n → j < n → i ≠ j → l[i]? = some oi → l[j]? = some oj → oi.dst = some di → oj.dst = some dj → isA i = true → isA j = true → listed.getD i false = true → listed.getD j false = true → ∀ g, obk (f di) = some g → obk (f dj) ≠ some g)
  have key := wpAny_inv2 (P := P) (md := .any) (Q := Q) hB J (fun i hin listed a w1 inv hi' hJ => by
      obtain ⟨f, rfl, hb, hΨ, hN⟩ := hJ
      obtain ⟨_, o, ho, hall⟩ := mem_ready.1 hi'
      have ho' : l[i]? = some o := by simpa using ho
      obtain ⟨d, hd, hds'⟩ := hds i o hin ho'
      have hst := steps5_at (l.take n) 0 i o steps (by rw [List.getElem?_take_of_lt hin]; exact ho')
      rw [Nat.zero_add] at hst
      have h1 := hst f w1 hb (deps_of _ fun e he hbd oe de hoe hde => by
          have hlt := dagB_spec hdag i hin o ho e (by simpa using he) hbd
          exact hΨ e.on oe de (by omega) hoe hde (hall e (by simpa using he) hbd))
        (fun x a' w' => match x with | .normal => J (listed.setIfInBounds i true) a' w' | y => Q y a' w')
        (fun v w' hv hw' hnew => by
          refine ⟨upd f d v, ?_, htrans hb hw', fun j oj dj hj hoj hdj hl => ?_, ?_⟩
          · simp only [Act.put, hd]
            rw [← hF, ← hF, fill2_set v hds']
          · by_cases e : i = j
            · subst e
              have : oj = o := Option.some.inj (hoj.symm.trans ho')
              subst this
              have : dj = d := Option.some.inj (hdj.symm.trans hd)
              subst this
              simpa [upd] using hv
            · have hdne : dj ≠ d := fun h => hne i j o oj d hin hj e ho' hoj hd (by rw [hdj, h])
              have : upd f d v dj = f dj := by simp [upd, hdne]
              rw [this]
              rw [getD_set_ne false e] at hl
              exact stab j _ _ _ (hΨ j oj dj hj hoj hdj hl) hw'
          · intro i1 j1 oi oj di dj hi1 hj1 hij hoi hoj hdi hdj hai haj hli hlj
            have other : ∀ (k : Nat) (ok : Oper) (dk : Nat), k < n → l[k]? = some ok → ok.dst = some dk → k ≠ i → isA k = true → (listed.setIfInBounds i true).getD k false = true → isA i = true → ∀ g, obk (upd f d v d) = some g → obk (upd f d v dk) ≠ some g := by
              intro k ok dk hk hok hdk hki hak hlk hai'
              have hdne : dk ≠ d := fun h => hne i k o ok d hin hk (Ne.symm hki) ho' hok hd (by rw [hdk, h])
              have e1 : upd f d v d = v := by simp [upd]
              have e2 : upd f d v dk = f dk := by simp [upd, hdne]
              rw [e1, e2]
              rw [getD_set_ne false (Ne.symm hki)] at hlk
              intro g hg hv
              have hge := hnew hai' g hg
              have := old k (f dk) w1 hak (hΨ k ok dk hk hok hdk hlk) g hv
              omega
            by_cases e : i1 = i
            · subst e
              have : oi = o := Option.some.inj (hoi.symm.trans ho')
              subst this
              have : di = d := Option.some.inj (hdi.symm.trans hd)
              subst this
              exact other j1 oj dj hj1 hoj hdj (Ne.symm hij) haj hlj hai
            · by_cases e2 : j1 = i
              · subst e2
                have : oj = o := Option.some.inj (hoj.symm.trans ho')
                subst this
                have : dj = d := Option.some.inj (hdj.symm.trans hd)
                subst this
                exact fun g h1 h2 => other i1 oi di hi1 hoi hdi e hai hli haj g h2 h1
              · have h1 : di ≠ d := fun h => hne i i1 o oi d hin hi1 (Ne.symm e) ho' hoi hd (by rw [hdi, h])
                have h2 : dj ≠ d := fun h => hne i j1 o oj d hin hj1 (Ne.symm e2) ho' hoj hd (by rw [hdj, h])
                have e3 : upd f d v di = f di := by simp [upd, h1]
                have e4 : upd f d v dj = f dj := by simp [upd, h2]
                rw [e3, e4]
                rw [getD_set_ne false (Ne.symm e)] at hli
                rw [getD_set_ne false (Ne.symm e2)] at hlj
                exact hN i1 j1 oi oj di dj hi1 hj1 hij hoi hoj hdi hdj hai haj hli hlj)
      unfold wpOp
      simp only [ho]
      unfold wpList at h1
      split
      · rename_i hw
        rw [if_pos hw] at h1
        rcases h1 with h1 | ⟨h1, h2⟩
        · exact .inl (Oper.wp_to (fun a w h => h) (fun c a w h => h) (fun h => h) h1)
        · exact .inr ⟨h1, h2⟩
      · rename_i hw
        rw [if_neg hw] at h1
        exact h1)
    (fun i hin o ho e he hb => dagB_spec hdag i hin o ho e he hb)
    (fun a w' hJ => by
      obtain ⟨f, rfl, hb, hΨ, hN⟩ := hJ
      have hl : ∀ j, j < n → (Array.replicate n true ++ Array.replicate (l.toArray.size - n) false).getD j false = true := by
       intro j hj
       have e : (Array.replicate n true ++ Array.replicate (l.toArray.size - n) false)[j]? = some true := by
         rw [Array.getElem?_append_left (by simpa using hj)]
         simp [hj]
       simp only [Array.getD_eq_getD_getElem?, e, Option.getD_some]
      exact done f w' hb (fun j o d hj ho hd => hΨ j o d hj ho hd (hl j hj)) fun i j oi oj di dj hi hj hij hoi hoj hdi hdj hai haj => hN i j oi oj di dj hi hj hij hoi hoj hdi hdj hai haj (hl i hi) (hl j hj))
    (left n (Array.replicate l.toArray.size false)) (Array.replicate l.toArray.size false) ⟨base.toArray, D⟩ { w with drawn := w.drawn + 1 } rfl
    ⟨by simp, fun j oj _ hl => (by rw [getD_replicate_false] at hl; cases hl), fun t _ ht => getD_in (by simpa using ht) (getD_replicate_false _ _)⟩
    ⟨fun k => base.getD k undef, by
        have := fill2L_id ds (fun k => base.getD k undef) base 0 (fun j b hb => by simp [hb])
        rw [← hF]; simp only [fill2, this], hdrew, (fun j o d _ _ _ hl => by rw [getD_replicate_false] at hl; cases hl), fun i j oi oj di dj _ _ _ _ _ _ _ _ _ hl => by rw [getD_replicate_false] at hl; cases hl⟩
  refine more_fuel key ?_
  have : left n (Array.replicate l.toArray.size false) ≤ n := by
    unfold left
    exact Nat.le_trans (List.length_filter_le _ _) (by simp)
  omega

theorem below_tr {a b c : World} (h : Below a.heap.size a b) (k : Below b.heap.size b c) : Below a.heap.size a c := h.trans (k.mono h.size)
end
end Go.Proofs.Ytdgaoljobpneaaa
