/- Rows of rows of bytes; the bag's putBytes. -/
import Derived.Test.YtiimojhdpmkeoaaGreatBa
namespace Go.Proofs.YtiimojhdpmkeoaaGreat
open Go.RowKit
/-- a row of rows, whose block is known -/
def RowQ (w : World) (g c : Nat) (vs : List Value) : Prop := ∃ cur : Array Value, w.heap[g]? = some (.cells cur 23 (0, 0)) ∧ vs.length ≤ c ∧ c ≤ maxLen ∧ cur.size = c ∧ cur.toList.take vs.length = vs
theorem RowQ.lt {w : World} {g c : Nat} {vs : List Value} (h : RowQ w g c vs) : g < w.heap.size := by
  obtain ⟨cur, h1, _⟩ := h
  exact (Array.getElem?_eq_some_iff.1 h1).1
theorem RowQ.below {w w' : World} {g c : Nat} {vs : List Value} (h : RowQ w g c vs) (hb : Below w.heap.size w w') : RowQ w' g c vs := by
  have hl := h.lt
  obtain ⟨cur, h1, h2⟩ := h
  exact ⟨cur, (hb.block g hl).trans h1, h2⟩
theorem RowQ.far {w : World} {g c : Nat} {vs : List Value} (h : RowQ w g c vs) {p : Addr} (hp : g ≠ p.block) (u : Value) : RowQ (w.setCell p u) g c vs := by
  obtain ⟨cur, h1, h2⟩ := h
  exact ⟨cur, (Below.heap_setCell w p u g hp).trans h1, h2⟩
theorem RowQ.ptr {w : World} {g c : Nat} {vs : List Value} (h : RowQ w g c vs) : PtrB w g vs.length vs.length (fun k => vs.getD k undef) := by
  obtain ⟨cur, h1, h2, h3, h4, h5⟩ := h
  refine ⟨cur, h1, by omega, fun k hk => ?_⟩
  have := congrArg (·[k]?) h5
  simp only [List.getElem?_take_of_lt hk] at this
  rw [← Array.getElem?_toList, this, List.getElem?_eq_getElem hk]
  simp [List.getD, List.getElem?_eq_getElem hk]
theorem run_appQ (w : World) (ty : TypeId) {g c : Nat} {vs : List Value} (hR : RowQ w g c vs) (ad : Addr) (c2 : Nat) (x : Value) (hx : x.oneCell' = true) (hnews : w.cell? ad = some x) (hb : vs.length ≤ 1000000) :
    ∃ g' c' w', (Builtin.append_ #[36, 36] ty #[.slice (some ⟨g, 0, none⟩) vs.length c, .slice (some ad) 1 c2]).run Tryz.prog w = .ok (.slice (some ⟨g', 0, none⟩) (vs.length + 1) c') w' ∧ RowQ w' g' c' (vs ++ [x]) ∧ ((g' = g ∧ w.grownBy w' (some g)) ∨ (g' = w.heap.size ∧ w.grownBy w' none)) := by
  obtain ⟨i, hi, hz, hs, hby⟩ := info_parts bs_infoK
  have hRc : ∀ j u, vs[j]? = some u → w.cell? ⟨g, j, none⟩ = some u := fun j u hu => by
    have hj : j < vs.length := by
      rcases Nat.lt_or_ge j vs.length with h | h
      · exact h
      · rw [List.getElem?_eq_none h] at hu
        cases hu
    have := hR.ptr.cell j hj
    rw [this]
    simp [List.getD, hu]
  obtain ⟨cur, h1, h2, h3, h4, h5⟩ := hR
  have hnv : ∀ j u, [x][j]? = some u → w.cell? (ad.add j) = some u := fun j u hu => by
    cases j with
    | zero => rw [show ad.add 0 = ad by unfold Addr.add; split <;> simp_all]; rw [hnews]; simpa using hu
    | succ j => simp at hu
  have hone : ∀ u ∈ [x], u.oneCell' = true := fun u hu => by
    rw [List.mem_singleton.1 hu]
    exact hx
  by_cases hroom : vs.length + 1 ≤ c
  · have hr := run_append_room (P := Tryz.prog) w 36 ty 23 i (by kernel_rfl) hi g vs.length c cur h1 ad 1 c2 [x] (by simp [hs]) hnv hone hroom (by rw [hs, h4]; simp; omega)
    refine ⟨g, c, _, hr, ⟨_, setRow_heap w g cur _ _ _ h1, by simp; omega, h3, ?_, ?_⟩, .inl ⟨rfl, ⟨rfl, rfl, rfl, by simp [World.setRow], fun k _ hk => setRow_other w g k _ (fun e => hk (by rw [e]))⟩⟩⟩
    · simp [hs, h4]; omega
    · simp only [hs, Nat.mul_one]
      rw [h5, List.take_left']
      rfl
  · have hr := run_append_grow (P := Tryz.prog) w 36 ty 23 i (.slice none 0 0) (by kernel_rfl) hi hz ⟨g, 0, none⟩ vs.length c vs (by rw [hs, Nat.mul_one]) (fun j u hu => by
      have hadd : (⟨g, 0, none⟩ : Addr).add j = ⟨g, j, none⟩ := by unfold Addr.add; split <;> simp_all
      rw [hadd, hRc j u hu]) ad 1 c2 [x] (by simp [hs]) hnv (by omega) (by omega) (growslice_fits (by omega) (by rw [hby]; omega))
    have hge := grownCap_ge w (vs.length + 1) c 23
    refine ⟨w.heap.size, _, _, hr, ⟨_, heap_alloc_new w.drew _, by simpa using hge, grownCap_le_maxLen w _ _ _ (by unfold maxLen; omega), ?_, ?_⟩, .inr ⟨rfl, ⟨rfl, rfl, rfl, by simp, fun k hk h => (World.grownBy_alloc w.drew _ none).block k hk h⟩⟩⟩
    · simp only [Array.size_append, List.size_toArray, size_zeroCells]
      simp [Value.cells]
      omega
    · simp only [Array.toList_append]
      rw [List.take_left']
      rfl
theorem run_appQ0 (w : World) (ty : TypeId) (ad : Addr) (c2 : Nat) (x : Value) (hx : x.oneCell' = true) (hnews : w.cell? ad = some x) :
    ∃ c' w', (Builtin.append_ #[36, 36] ty #[.slice none 0 0, .slice (some ad) 1 c2]).run Tryz.prog w = .ok (.slice (some ⟨w.heap.size, 0, none⟩) 1 c') w' ∧ RowQ w' w.heap.size c' [x] ∧ w.grownBy w' none := by
  obtain ⟨i, hi, hz, hs, hby⟩ := info_parts bs_infoK
  have hnv : ∀ j u, [x][j]? = some u → w.cell? (ad.add j) = some u := fun j u hu => by
    cases j with
    | zero => rw [show ad.add 0 = ad by unfold Addr.add; split <;> simp_all]; rw [hnews]; simpa using hu
    | succ j => simp at hu
  have hone : ∀ u ∈ [x], u.oneCell' = true := fun u hu => by
    rw [List.mem_singleton.1 hu]
    exact hx
  have hr := run_append_grow_src (P := Tryz.prog) w 36 36 ty 23 i (.slice none 0 0) (by kernel_rfl) hi hz none 0 0 [] (run_firstCells_none w.drew i.size 0 0 0) _ 1 [x] (Src.ofSlice w (e' := 23) (by kernel_rfl) ad 1 c2 [x] (by simp [hs]) hnv hone) (by omega) (by omega) (growslice_fits (by omega) (by rw [hby]; omega))
  have hge := grownCap_ge w (0 + 1) 0 23
  refine ⟨_, _, hr, ⟨_, heap_alloc_new w.drew _, by simpa using hge, grownCap_le_maxLen w _ _ _ (by unfold maxLen; omega), ?_, ?_⟩, ⟨rfl, rfl, rfl, by simp, fun k hk h => (World.grownBy_alloc w.drew _ none).block k hk h⟩⟩
  · rw [Nat.zero_add] at hge ⊢
    simp only [Array.size_append, List.size_toArray, size_zeroCells]
    simp [Value.cells]
    omega
  · simp
section
variable {ops : Array Oper} {rest : List Oper} {o : Oper} {a : Act} {w : World} {Q : Exit → Act → World → Prop}
theorem wpList_appQ (hgd : o.guard = none) {s y : Operand} (ho : o.op = .call { callee := .builtin .append, args := #[s, y], argTypes := #[36, 36] }) {g c n : Nat} {vs : List Value} (hs : a.eval s = .slice (some ⟨g, 0, none⟩) n c) (hn : vs.length = n) (hR : RowQ w g c vs)
    {ad : Addr} {c2 : Nat} (hy : a.eval y = .slice (some ad) 1 c2) (x : Value) (hx : x.oneCell' = true) (hnews : w.cell? ad = some x) (hb : vs.length ≤ 1000000)
    (h : ∀ g' c' w', RowQ w' g' c' (vs ++ [x]) → ((g' = g ∧ w.grownBy w' (some g)) ∨ (g' = w.heap.size ∧ w.grownBy w' none)) → wpList Tryz.prog ops Q rest (a.put o.dst (.slice (some ⟨g', 0, none⟩) (n + 1) c')) w') : wpList Tryz.prog ops Q (o :: rest) a w :=
  wpList_plain hgd fun _ hK => by
    subst hn
    obtain ⟨g', c', w', hr, h2, h3⟩ := run_appQ w o.type hR ad c2 x hx hnews hb
    unfold Oper.wp execOp
    simp only [ho, resolve, invoke, builtin, Sem.run_bind, Sem.run_pure, Result.andThen_ok, List.map_toArray, List.map_cons, List.map_nil, hs, hy, hr]
    exact hK _ _ (h g' c' w' h2 h3)
theorem wpList_appQ0 (hgd : o.guard = none) {s y : Operand} (ho : o.op = .call { callee := .builtin .append, args := #[s, y], argTypes := #[36, 36] }) (hs : a.eval s = .slice none 0 0)
    {ad : Addr} {c2 : Nat} (hy : a.eval y = .slice (some ad) 1 c2) (x : Value) (hx : x.oneCell' = true) (hnews : w.cell? ad = some x)
    (h : ∀ c' w', RowQ w' w.heap.size c' [x] → w.grownBy w' none → wpList Tryz.prog ops Q rest (a.put o.dst (.slice (some ⟨w.heap.size, 0, none⟩) 1 c')) w') : wpList Tryz.prog ops Q (o :: rest) a w :=
  wpList_plain hgd fun _ hK => by
    obtain ⟨c', w', hr, h2, h3⟩ := run_appQ0 w o.type ad c2 x hx hnews
    unfold Oper.wp execOp
    simp only [ho, resolve, invoke, builtin, Sem.run_bind, Sem.run_pure, Result.andThen_ok, List.map_toArray, List.map_cons, List.map_nil, hs, hy, hr]
    exact hK _ _ (h c' w' h2 h3)
end
theorem RowQ.cells {w : World} {g c : Nat} {vs : List Value} (h : RowQ w g c vs) (k : Nat) (hk : k < vs.length) : w.cell? ⟨g, k, none⟩ = some (vs.getD k undef) := h.ptr.cell k hk
theorem RowQ.grown {w w' : World} {g c : Nat} {vs : List Value} {row : Option Nat} (h : RowQ w g c vs) (hg : w.grownBy w' row) (hne : some g ≠ row) : RowQ w' g c vs := by
  have hl := h.lt
  obtain ⟨cur, h1, h2⟩ := h
  exact ⟨cur, (hg.block g hl hne).trans h1, h2⟩
/-- a value that holds rows of rows of its own: nil, or a block from B on -/
def PW (B : Nat) (w : World) (v : Value) (vs : List Value) : Prop := (v = .slice none 0 0 ∧ vs = []) ∨ ∃ L C, v = .slice (some ⟨L, 0, none⟩) vs.length C ∧ B ≤ L ∧ RowQ w L C vs
theorem PW.below {B : Nat} {w w' : World} {v : Value} {vs : List Value} (h : PW B w v vs) (hb : Below w.heap.size w w') : PW B w' v vs := by
  rcases h with h | ⟨L, C, h1, h2, h3⟩
  · exact .inl h
  · exact .inr ⟨L, C, h1, h2, h3.below hb⟩
theorem PW.own {B : Nat} {w : World} {v : Value} {vs : List Value} (h : PW B w v vs) : ∀ k, v.ownBlock = some k → B ≤ k ∧ k < w.heap.size := fun k hk => by
  rcases h with ⟨rfl, _⟩ | ⟨L, C, rfl, h2, h3⟩
  · cases hk
  · obtain rfl : L = k := Option.some.inj hk
    exact ⟨h2, h3.lt⟩
section
variable {ops : Array Oper} {rest : List Oper} {o : Oper} {a : Act} {w : World} {Q : Exit → Act → World → Prop}
/-- one row appended, whatever was there -/
theorem wpList_appW {B : Nat} (hgd : o.guard = none) {s y : Operand} (ho : o.op = .call { callee := .builtin .append, args := #[s, y], argTypes := #[36, 36] }) {v : Value} {vs : List Value} (hs : a.eval s = v) (hV : PW B w v vs)
    {ad : Addr} {c2 : Nat} (hy : a.eval y = .slice (some ad) 1 c2) (x : Value) (hx : x.oneCell' = true) (hnews : w.cell? ad = some x) (hb : vs.length ≤ 1000000) (hB : B ≤ w.heap.size)
    (h : ∀ v' w', PW B w' v' (vs ++ [x]) → w.grownBy w' v.ownBlock → (v'.ownBlock = v.ownBlock ∨ v'.ownBlock = some w.heap.size) → wpList Tryz.prog ops Q rest (a.put o.dst v') w') : wpList Tryz.prog ops Q (o :: rest) a w := by
  rcases hV with ⟨rfl, rfl⟩ | ⟨L, C, rfl, h2, h3⟩
  · exact wpList_appQ0 hgd ho hs hy x hx hnews (fun c' w' hR hg => h _ w' (.inr ⟨_, c', rfl, hB, hR⟩) ⟨hg.os, hg.tape, hg.output, hg.size, fun k hk _ => hg.block k hk (by simp)⟩ (.inr rfl))
  · refine wpList_appQ hgd ho hs rfl h3 hy x hx hnews hb (fun g' c' w' hR hcase => ?_)
    have e : vs.length + 1 = (vs ++ [x]).length := by simp
    rw [e]
    rcases hcase with ⟨rfl, hg⟩ | ⟨rfl, hg⟩
    · exact h _ w' (.inr ⟨_, c', rfl, h2, hR⟩) hg (.inl rfl)
    · exact h _ w' (.inr ⟨_, c', rfl, hB, hR⟩) ⟨hg.os, hg.tape, hg.output, hg.size, fun k hk _ => hg.block k hk (by simp)⟩ (.inr rfl)
end
/-- the bag: 24 rows, the one of bytes told -/
def bagB (v : Value) : Array Value := #[.slice none 0 0, .slice none 0 0, .slice none 0 0, .slice none 0 0, .slice none 0 0, v, .slice none 0 0, .slice none 0 0, .slice none 0 0, .slice none 0 0, .slice none 0 0, .slice none 0 0, .slice none 0 0, .slice none 0 0, .slice none 0 0, .slice none 0 0, .slice none 0 0, .slice none 0 0, .slice none 0 0, .slice none 0 0, .slice none 0 0, .slice none 0 0, .slice none 0 0, .slice none 0 0]
/-- a bag whose bytes are vs -/
def BagT (Bg : Nat) (vs : List Value) (w : World) : Prop := ∃ v, PW (Bg + 1) w v vs ∧ Blk w Bg 74 (bagB v)
theorem BagT.below {Bg : Nat} {vs : List Value} {w w' : World} (h : BagT Bg vs w) (hb : Below w.heap.size w w') : BagT Bg vs w' := by
  obtain ⟨v, h1, h2⟩ := h
  exact ⟨v, h1.below hb, h2.below hb⟩
set_option maxRecDepth 20000 in
set_option maxHeartbeats 2000000 in
theorem putBytes_c (Bg : Nat) (p : Option Addr) (n c : Nat) (vs : List Value) (hvs : vs.length ≤ 1000000) (w : World) (hB : BagT Bg vs w) :
    Calls Tryz.prog 33 #[.pointer (some ⟨Bg, 0, none⟩), .slice p n c] w fun e w' => (∃ v, e = .returned v) ∧ BagT Bg (vs ++ [.slice p n c]) w' ∧ Below Bg w w' := by
  obtain ⟨v, hV, hB⟩ := hB
  have hlt := hB.lt
  have c8 : w.cell? ⟨Bg, 5, none⟩ = some v := hB.cell 5
  have hVa := hV.below ((Below.refl _ _).alloc (Nat.le_refl _) (.cells #[.slice p n c] 23))
  have hc8 : (w.alloc (.cells #[.slice p n c] 23)).cell? ⟨w.heap.size, 0, none⟩ = some (.slice p n c) := (Blk.new w _ _).cell 0
  have hown := hV.own
  have hfin : ∀ v' w1, PW (Bg + 1) w1 v' (vs ++ [.slice p n c]) → (w.alloc (.cells #[.slice p n c] 23)).grownBy w1 v.ownBlock → Blk w1 Bg 74 (bagB v) ∧ (∃ u, v' = .slice u (vs.length + 1) (match v' with | .slice _ _ k => k | _ => 0)) ∧ BagT Bg (vs ++ [.slice p n c]) (w1.setCell ⟨Bg, 5, none⟩ v') ∧ Below Bg w (w1.setCell ⟨Bg, 5, none⟩ v') := fun v' w1 h1 h2 => by
    have hB1 : Blk w1 Bg 74 (bagB v) := (hB.alloc _).grown h2 (fun e => by have := (hown Bg e.symm).1; omega)
    refine ⟨hB1, ?_, ⟨v', ?_, hB1.set_ 5 v'⟩, ?_⟩
    · rcases h1 with ⟨_, h⟩ | ⟨L, C, rfl, _, _⟩
      · simp at h
      · exact ⟨some ⟨L, 0, none⟩, by simp⟩
    · rcases h1 with ⟨_, h⟩ | ⟨L, C, rfl, h5, h6⟩
      · simp at h
      · exact .inr ⟨L, C, rfl, h5, h6.far (p := ⟨Bg, 5, none⟩) (by show L ≠ Bg; omega) _⟩
    · exact (((Below.refl _ _).alloc (Nat.le_of_lt hlt) _).grown h2 (by simp; omega) (fun k hk => by have := (hown k hk).1; omega)).setCell (p := ⟨Bg, 5, none⟩) (Nat.le_refl _) _
  replace hVa := Lib.hid hVa
  replace hc8 := Lib.hid hc8
  replace hfin := Lib.hid hfin
  replace hB := Lib.hid hB
  clear hV hown
  go_enter Tryz.func33, Tryz.ntmps33
  go_wp2_with (at_builtin; refine wpList_appW rfl rfl rfl hVa.out rfl (.slice p n c) rfl hc8.out hvs (by simp; omega) ?_; intro v' w1 hV1 hg1 _; obtain ⟨hB1, ⟨u, hu⟩, hS1, hb1⟩ := hfin.out v' w1 hV1 hg1; have c9 : w1.cell? ⟨Bg, 5, none⟩ = some v := hB1.cell 5; have f9 := hB1.frozen 5; rw [hu] at hS1 hb1 ⊢; clear hu; generalize (match v' with | .slice _ _ k => k | _ => 0) = kk at *; have hP := Lib.hid (And.intro hS1 hb1); clear hV1 hg1 hS1 hb1 hB1)
  go_returns
  exact ⟨⟨_, rfl⟩, hP.out.1, hP.out.2⟩
end Go.Proofs.YtiimojhdpmkeoaaGreat
