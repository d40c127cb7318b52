/- ApartBytes of two rows of one's own answers true. -/
import Derived.Test.YtjejibojcjfleaaGreatQb
namespace Go.Proofs.YtjejibojcjfleaaGreat
open Go.RowKit
/-- a row of rows, whose block is known -/
def RowP (w : World) (g c : Nat) (vs : List Value) : Prop := ∃ cur : Array Value, w.heap[g]? = some (.cells cur 22 (0, 0)) ∧ vs.length ≤ c ∧ c ≤ maxLen ∧ cur.size = c ∧ cur.toList.take vs.length = vs
theorem RowP.lt {w : World} {g c : Nat} {vs : List Value} (h : RowP w g c vs) : g < w.heap.size := by
  obtain ⟨cur, h1, _⟩ := h
  exact (Array.getElem?_eq_some_iff.1 h1).1
theorem RowP.below {w w' : World} {g c : Nat} {vs : List Value} (h : RowP w g c vs) (hb : Below w.heap.size w w') : RowP w' g c vs := by
  have hl := h.lt
  obtain ⟨cur, h1, h2⟩ := h
  exact ⟨cur, (hb.block g hl).trans h1, h2⟩
theorem RowP.far {w : World} {g c : Nat} {vs : List Value} (h : RowP w g c vs) {p : Addr} (hp : g ≠ p.block) (u : Value) : RowP (w.setCell p u) g c vs := by
  obtain ⟨cur, h1, h2⟩ := h
  exact ⟨cur, (Below.heap_setCell w p u g hp).trans h1, h2⟩
theorem RowP.ptr {w : World} {g c : Nat} {vs : List Value} (h : RowP w g c vs) : PtrR w g vs.length vs.length (fun k => vs.getD k undef) := by
  obtain ⟨cur, h1, h2, h3, h4, h5⟩ := h
  refine ⟨cur, h1, by omega, fun k hk => ?_⟩
  have := congrArg (·[k]?) h5
  simp only [List.getElem?_take_of_lt hk] at this
  rw [← Array.getElem?_toList, this, List.getElem?_eq_getElem hk]
  simp [List.getD, List.getElem?_eq_getElem hk]
theorem run_appP (w : World) (ty : TypeId) {g c : Nat} {vs : List Value} (hR : RowP w g c vs) (ad : Addr) (c2 : Nat) (x : Value) (hx : x.oneCell' = true) (hnews : w.cell? ad = some x) (hb : vs.length ≤ 1000000) :
    ∃ g' c' w', (Builtin.append_ #[38, 38] ty #[.slice (some ⟨g, 0, none⟩) vs.length c, .slice (some ad) 1 c2]).run Tryz.prog w = .ok (.slice (some ⟨g', 0, none⟩) (vs.length + 1) c') w' ∧ RowP w' g' c' (vs ++ [x]) ∧ ((g' = g ∧ w.grownBy w' (some g)) ∨ (g' = w.heap.size ∧ w.grownBy w' none)) := by
  obtain ⟨i, hi, hz, hs, hby⟩ := info_parts bs_infoK
  have hRc : ∀ j u, vs[j]? = some u → w.cell? ⟨g, j, none⟩ = some u := fun j u hu => by
    have hj : j < vs.length := by
      rcases Nat.lt_or_ge j vs.length with h | h
      · exact h
      · rw [List.getElem?_eq_none h] at hu
        cases hu
    have := hR.ptr.cell j hj
    rw [this]
    simp [List.getD, hu]
  obtain ⟨cur, h1, h2, h3, h4, h5⟩ := hR
  have hnv : ∀ j u, [x][j]? = some u → w.cell? (ad.add j) = some u := fun j u hu => by
    cases j with
    | zero => rw [show ad.add 0 = ad by unfold Addr.add; split <;> simp_all]; rw [hnews]; simpa using hu
    | succ j => simp at hu
  have hone : ∀ u ∈ [x], u.oneCell' = true := fun u hu => by
    rw [List.mem_singleton.1 hu]
    exact hx
  by_cases hroom : vs.length + 1 ≤ c
  · have hr := run_append_room (P := Tryz.prog) w 38 ty 22 i (by kernel_rfl) hi g vs.length c cur h1 ad 1 c2 [x] (by simp [hs]) hnv hone hroom (by rw [hs, h4]; simp; omega)
    refine ⟨g, c, _, hr, ⟨_, setRow_heap w g cur _ _ _ h1, by simp; omega, h3, ?_, ?_⟩, .inl ⟨rfl, ⟨rfl, rfl, rfl, by simp [World.setRow], fun k _ hk => setRow_other w g k _ (fun e => hk (by rw [e]))⟩⟩⟩
    · simp [hs, h4]; omega
    · simp only [hs, Nat.mul_one]
      rw [h5, List.take_left']
      rfl
  · have hr := run_append_grow (P := Tryz.prog) w 38 ty 22 i (.slice none 0 0) (by kernel_rfl) hi hz ⟨g, 0, none⟩ vs.length c vs (by rw [hs, Nat.mul_one]) (fun j u hu => by
      have hadd : (⟨g, 0, none⟩ : Addr).add j = ⟨g, j, none⟩ := by unfold Addr.add; split <;> simp_all
      rw [hadd, hRc j u hu]) ad 1 c2 [x] (by simp [hs]) hnv (by omega) (by omega) (growslice_fits (by omega) (by rw [hby]; omega))
    have hge := grownCap_ge w (vs.length + 1) c 22
    refine ⟨w.heap.size, _, _, hr, ⟨_, heap_alloc_new w.drew _, by simpa using hge, grownCap_le_maxLen w _ _ _ (by unfold maxLen; omega), ?_, ?_⟩, .inr ⟨rfl, ⟨rfl, rfl, rfl, by simp, fun k hk h => (World.grownBy_alloc w.drew _ none).block k hk h⟩⟩⟩
    · simp only [Array.size_append, List.size_toArray, size_zeroCells]
      simp [Value.cells]
      omega
    · simp only [Array.toList_append]
      rw [List.take_left']
      rfl
theorem run_appP0 (w : World) (ty : TypeId) (ad : Addr) (c2 : Nat) (x : Value) (hx : x.oneCell' = true) (hnews : w.cell? ad = some x) :
    ∃ c' w', (Builtin.append_ #[38, 38] ty #[.slice none 0 0, .slice (some ad) 1 c2]).run Tryz.prog w = .ok (.slice (some ⟨w.heap.size, 0, none⟩) 1 c') w' ∧ RowP w' w.heap.size c' [x] ∧ w.grownBy w' none := by
  obtain ⟨i, hi, hz, hs, hby⟩ := info_parts bs_infoK
  have hnv : ∀ j u, [x][j]? = some u → w.cell? (ad.add j) = some u := fun j u hu => by
    cases j with
    | zero => rw [show ad.add 0 = ad by unfold Addr.add; split <;> simp_all]; rw [hnews]; simpa using hu
    | succ j => simp at hu
  have hone : ∀ u ∈ [x], u.oneCell' = true := fun u hu => by
    rw [List.mem_singleton.1 hu]
    exact hx
  have hr := run_append_grow_src (P := Tryz.prog) w 38 38 ty 22 i (.slice none 0 0) (by kernel_rfl) hi hz none 0 0 [] (run_firstCells_none w.drew i.size 0 0 0) _ 1 [x] (Src.ofSlice w (e' := 22) (by kernel_rfl) ad 1 c2 [x] (by simp [hs]) hnv hone) (by omega) (by omega) (growslice_fits (by omega) (by rw [hby]; omega))
  have hge := grownCap_ge w (0 + 1) 0 22
  refine ⟨_, _, hr, ⟨_, heap_alloc_new w.drew _, by simpa using hge, grownCap_le_maxLen w _ _ _ (by unfold maxLen; omega), ?_, ?_⟩, ⟨rfl, rfl, rfl, by simp, fun k hk h => (World.grownBy_alloc w.drew _ none).block k hk h⟩⟩
  · rw [Nat.zero_add] at hge ⊢
    simp only [Array.size_append, List.size_toArray, size_zeroCells]
    simp [Value.cells]
    omega
  · simp
section
variable {ops : Array Oper} {rest : List Oper} {o : Oper} {a : Act} {w : World} {Q : Exit → Act → World → Prop}
theorem wpList_appP (hgd : o.guard = none) {s y : Operand} (ho : o.op = .call { callee := .builtin .append, args := #[s, y], argTypes := #[38, 38] }) {g c n : Nat} {vs : List Value} (hs : a.eval s = .slice (some ⟨g, 0, none⟩) n c) (hn : vs.length = n) (hR : RowP w g c vs)
    {ad : Addr} {c2 : Nat} (hy : a.eval y = .slice (some ad) 1 c2) (x : Value) (hx : x.oneCell' = true) (hnews : w.cell? ad = some x) (hb : vs.length ≤ 1000000)
    (h : ∀ g' c' w', RowP w' g' c' (vs ++ [x]) → ((g' = g ∧ w.grownBy w' (some g)) ∨ (g' = w.heap.size ∧ w.grownBy w' none)) → wpList Tryz.prog ops Q rest (a.put o.dst (.slice (some ⟨g', 0, none⟩) (n + 1) c')) w') : wpList Tryz.prog ops Q (o :: rest) a w :=
  wpList_plain hgd fun _ hK => by
    subst hn
    obtain ⟨g', c', w', hr, h2, h3⟩ := run_appP w o.type hR ad c2 x hx hnews hb
    unfold Oper.wp execOp
    simp only [ho, resolve, invoke, builtin, Sem.run_bind, Sem.run_pure, Result.andThen_ok, List.map_toArray, List.map_cons, List.map_nil, hs, hy, hr]
    exact hK _ _ (h g' c' w' h2 h3)
theorem wpList_appP0 (hgd : o.guard = none) {s y : Operand} (ho : o.op = .call { callee := .builtin .append, args := #[s, y], argTypes := #[38, 38] }) (hs : a.eval s = .slice none 0 0)
    {ad : Addr} {c2 : Nat} (hy : a.eval y = .slice (some ad) 1 c2) (x : Value) (hx : x.oneCell' = true) (hnews : w.cell? ad = some x)
    (h : ∀ c' w', RowP w' w.heap.size c' [x] → w.grownBy w' none → wpList Tryz.prog ops Q rest (a.put o.dst (.slice (some ⟨w.heap.size, 0, none⟩) 1 c')) w') : wpList Tryz.prog ops Q (o :: rest) a w :=
  wpList_plain hgd fun _ hK => by
    obtain ⟨c', w', hr, h2, h3⟩ := run_appP0 w o.type ad c2 x hx hnews
    unfold Oper.wp execOp
    simp only [ho, resolve, invoke, builtin, Sem.run_bind, Sem.run_pure, Result.andThen_ok, List.map_toArray, List.map_cons, List.map_nil, hs, hy, hr]
    exact hK _ _ (h c' w' h2 h3)
end
/-- the bag: 24 rows, the one of bytes told *-/
def bagA (v : Value) : Array Value := #[.slice none 0 0, .slice none 0 0, .slice none 0 0, .slice none 0 0, .slice none 0 0, v, .slice none 0 0, .slice none 0 0, .slice none 0 0, .slice none 0 0, .slice none 0 0, .slice none 0 0, .slice none 0 0, .slice none 0 0, .slice none 0 0, .slice none 0 0, .slice none 0 0, .slice none 0 0, .slice none 0 0, .slice none 0 0, .slice none 0 0, .slice none 0 0, .slice none 0 0, .slice none 0 0]
theorem putBytes_0 (Bg g n c : Nat) (w : World) (hB : Blk w Bg 81 (bagA (.slice none 0 0))) :
    Calls Tryz.prog 31 #[.pointer (some ⟨Bg, 0, none⟩), .slice (some ⟨g, 0, none⟩) n c] w fun e w' => (∃ v, e = .returned v) ∧ ∃ L C, Bg < L ∧ RowP w' L C [.slice (some ⟨g, 0, none⟩) n c] ∧ Blk w' Bg 81 (bagA (.slice (some ⟨L, 0, none⟩) 1 C)) ∧ Below Bg w w' := by
  have hlt := hB.lt
  have c5 : w.cell? ⟨Bg, 5, none⟩ = some (.slice none 0 0) := hB.cell 5
  have f5 := hB.frozen 5
  go_enter Tryz.func31, Tryz.ntmps31
  go_wp2
  go_returns
  have hge : 1 ≤ (Question.appendCap 1 0 22).cut (w.tape w.drawn (Question.appendCap 1 0 22)) := grownCap_ge w 1 0 22
  have hle : (Question.appendCap 1 0 22).cut (w.tape w.drawn (Question.appendCap 1 0 22)) ≤ maxLen := grownCap_le_maxLen w 1 0 22 (by unfold maxLen; omega)
  generalize (Question.appendCap 1 0 22).cut (w.tape w.drawn (Question.appendCap 1 0 22)) = C at *
  refine ⟨⟨_, rfl⟩, w.heap.size + 1, C, by omega, ?_, ?_, ?_⟩
  · have hN := ((blk_at (show _ = w.heap.size + 1 by simp) (Blk.new ((w.setCell ⟨Bg, 5, none⟩ (.slice (some ⟨w.heap.size + 1, 0, none⟩) 1 C)).alloc (Obj.cells #[.slice (some ⟨g, 0, none⟩) n c] 22)) 22 (#[.slice (some ⟨g, 0, none⟩) n c] ++ Builtin.zeroCells #[.slice none 0 0] (C - 1))))).drew
    refine ⟨_, hN, by simpa using hge, hle, ?_, by simp⟩
    simp only [Array.size_append, List.size_toArray, size_zeroCells]
    simp
    omega
  · exact (((hB.set_ 5 _).alloc _).alloc _).drew
  · go_grown
theorem putBytes_1 (Bg g n c L C : Nat) (x0 : Value) (w : World) (hB : Blk w Bg 81 (bagA (.slice (some ⟨L, 0, none⟩) 1 C))) (hL : Bg < L) (hR : RowP w L C [x0]) :
    Calls Tryz.prog 31 #[.pointer (some ⟨Bg, 0, none⟩), .slice (some ⟨g, 0, none⟩) n c] w fun e w' => (∃ v, e = .returned v) ∧ ∃ L C, Bg < L ∧ RowP w' L C [x0, .slice (some ⟨g, 0, none⟩) n c] ∧ Blk w' Bg 81 (bagA (.slice (some ⟨L, 0, none⟩) 2 C)) ∧ Below Bg w w' := by
  have hlt := hB.lt
  have c5 : w.cell? ⟨Bg, 5, none⟩ = some (.slice (some ⟨L, 0, none⟩) 1 C) := hB.cell 5
  go_enter Tryz.func31, Tryz.ntmps31
  go_wp2_with (refine wpList_appP rfl rfl rfl rfl (hR.below ((Below.refl _ _).alloc (Nat.le_refl _) _)) rfl (.slice (some ⟨g, 0, none⟩) n c) rfl ((Blk.new w _ #[.slice (some ⟨g, 0, none⟩) n c]).cell 0) (by simp) ?_; intro L2 C2 w1 hR1 hcase; have hB1 : Blk w1 Bg 81 (bagA (.slice (some ⟨L, 0, none⟩) 1 C)) := (by rcases hcase with ⟨_, h⟩ | ⟨_, h⟩ <;> exact (hB.alloc _).grown h (by simp; try omega)); have hb1 : Below Bg w w1 := (by rcases hcase with ⟨_, h⟩ | ⟨_, h⟩ <;> exact ((Below.refl _ _).alloc (Nat.le_of_lt hlt) _).grown h (by simp; omega) (fun k e => by cases e <;> omega)); have hL2 : Bg < L2 := (by rcases hcase with ⟨e, _⟩ | ⟨e, _⟩ <;> rw [e] <;> (try simp) <;> omega); have c6 : w1.cell? ⟨Bg, 5, none⟩ = some (.slice (some ⟨L, 0, none⟩) 1 C) := hB1.cell 5; have f6 := hB1.frozen 5; clear hcase)
  go_returns
  exact ⟨⟨_, rfl⟩, L2, C2, hL2, hR1.far (by show L2 ≠ Bg; omega) _, hB1.set_ 5 _, hb1.setCell (Nat.le_refl _) _⟩
end Go.Proofs.YtjejibojcjfleaaGreat
