/- Rows of records appended onto a row of one's own. -/
import Derived.Test.YtdgaoljobpneaaaHs
import Derived.Deep.Slices
namespace Go.Proofs.Ytdgaoljobpneaaa
open Go.RowKit
/-- m things of k cells, as they lie at p -/
def CellsAt (k : Nat) (w : World) (p : Option Addr) (m : Nat) (us : List Value) : Prop := us.length = m * k ∧ (∀ u, u ∈ us → u.oneCell' = true) ∧ (0 < m → ∃ g o, p = some ⟨g, o, none⟩ ∧ g < w.heap.size ∧ ∀ (j : Nat) (u : Value), us[j]? = some u → w.cell? ⟨g, o + j, none⟩ = some u)
theorem CellsAt.below {k m : Nat} {w w' : World} {p : Option Addr} {us : List Value} (h : CellsAt k w p m us) (hb : Below w.heap.size w w') : CellsAt k w' p m us := ⟨h.1, h.2.1, fun hm => by
  obtain ⟨g, o, e, hg, hc⟩ := h.2.2 hm
  exact ⟨g, o, e, Nat.lt_of_lt_of_le hg hb.size, fun j u hu => (hb.cell (p := ⟨g, o + j, none⟩) hg).trans (hc j u hu)⟩⟩
theorem run_appRecs (w : World) (ty : TypeId) (base : Nat) (v : Value) (n : Nat) (xs us : List Value) (hown : w.ownsRow base 25 7 v n xs) (p : Option Addr) (m c : Nat) (hX : CellsAt 7 w p m us)
    (hb : n + m ≤ 1000000000) (hbase : base ≤ w.heap.size) :
    ∃ v' w', (Builtin.append_ #[29, 29] ty #[v, .slice p m c]).run Try.prog w = .ok v' w' ∧ w'.ownsRow base 25 7 v' (n + m) (xs ++ us) ∧ w.grownBy w' v.ownBlock ∧ (v'.ownBlock = v.ownBlock ∨ v'.ownBlock = some w.heap.size) := by
  obtain ⟨i, hi, hz, hs, hby⟩ := info_parts rec_info
  obtain ⟨hxl, hx1, hxc⟩ := hX
  have hone : ∀ ad : Addr, (∀ j u, us[j]? = some u → w.cell? (ad.add j) = some u) → p = some ad → ∃ v' w', (Builtin.append_ #[29, 29] ty #[v, .slice p m c]).run Try.prog w = .ok v' w' ∧ w'.ownsRow base 25 7 v' (n + m) (xs ++ us) ∧ w.grownBy w' v.ownBlock ∧ (v'.ownBlock = v.ownBlock ∨ v'.ownBlock = some w.heap.size) := fun ad h hp => by
    subst hp
    obtain ⟨v', w', h1, h2, h3, h4, h5⟩ := run_append_own_at (P := Try.prog) w base 29 ty 25 i _ 7 112 recs_under hi hz hs hby rfl (by decide) v n xs hown ad m c us hxl h hx1 (by unfold maxLen; omega) (by omega) hbase
    exact ⟨v', w', h1, h2, h3, h5⟩
  by_cases h0 : m = 0
  · subst h0
    obtain rfl : us = [] := List.eq_nil_of_length_eq_zero (by omega)
    cases p with
    | some ad => exact hone ad (fun j u hu => by simp at hu) rfl
    | none =>
      rcases hown with ⟨hl, ⟨rfl, rfl⟩ | ⟨g, cap, cur, rfl, h1, h2, h3, h4, h5, h6⟩⟩
      · refine ⟨.slice none 0 0, w, ?_, ⟨by simpa using hl, .inl ⟨rfl, rfl⟩⟩, ⟨rfl, rfl, rfl, Nat.le_refl _, fun _ _ _ => rfl⟩, .inl rfl⟩
        simp [Builtin.append_, run_underlying recs_under, sizeOf, typeInfo, hi, Builtin.lenOf, Builtin.firstCells]
      · have hr := run_append_room_src (P := Try.prog) w 29 29 ty 25 i recs_under hi g 0 n cap (.slice none 0 c) 0 [] (Src.ofNil w recs_under c) (by omega) (fun j hj => absurd hj (by simp)) (fun j hj => absurd hj (by simp))
        simp only [Nat.add_zero, World.setCells] at hr
        exact ⟨_, w, hr, ⟨by simpa using hl, .inr ⟨g, cap, cur, rfl, h1, h2, h3, h4, h5, by simpa using h6⟩⟩, ⟨rfl, rfl, rfl, Nat.le_refl _, fun _ _ _ => rfl⟩, .inl rfl⟩
  · obtain ⟨g, o, rfl, _, hc⟩ := hxc (by omega)
    exact hone _ (fun j u hu => by rw [add_o]; exact hc j u hu) rfl
section
variable {ops : Array Oper} {rest : List Oper} {o : Oper} {a : Act} {w : World} {Q : Exit → Act → World → Prop}
theorem wpList_appRecs (hgd : o.guard = none) {s x : Operand} (ho : o.op = .call { callee := .builtin .append, args := #[s, x], argTypes := #[29, 29] }) {v : Value} (hs : a.eval s = v) {base n : Nat} {xs us : List Value} (hown : w.ownsRow base 25 7 v n xs)
    {p : Option Addr} {m c : Nat} (hx : a.eval x = .slice p m c) (hX : CellsAt 7 w p m us) (hb : n + m ≤ 1000000000) (hbase : base ≤ w.heap.size)
    (h : ∀ v' w', w'.ownsRow base 25 7 v' (n + m) (xs ++ us) → w.grownBy w' v.ownBlock → (v'.ownBlock = v.ownBlock ∨ v'.ownBlock = some w.heap.size) → wpList Try.prog ops Q rest (a.put o.dst v') w') : wpList Try.prog ops Q (o :: rest) a w :=
  wpList_plain hgd fun _ hK => by
    obtain ⟨v', w', hr, h2, h3, h4⟩ := run_appRecs w o.type base v n xs us hown p m c hX hb hbase
    unfold Oper.wp execOp
    simp only [ho, resolve, invoke, builtin, Sem.run_bind, Sem.run_pure, Result.andThen_ok, List.map_toArray, List.map_cons, List.map_nil, hs, hx, hr]
    exact hK _ _ (h v' w' h2 h3 h4)
end
/-- a row of records as cells, and each one's reading -/
def RowsR (S : List Nat) (w : World) (vs : List Value) (L : List RecD) : Prop := vs.length = L.length ∧ ∀ (i : Nat) (v : Value) (r : RecD), vs[i]? = some v → L[i]? = some r → RecF S w v r
theorem recF_cells {S : List Nat} {w : World} {v : Value} {r : RecD} (h : RecF S w v r) : (cellsV v).length = 7 ∧ ∀ u ∈ cellsV v, u.oneCell' = true := by
  obtain ⟨p1, c1, p2, c2, p3, c3, rfl, _⟩ := h
  refine ⟨rfl, fun u hu => ?_⟩
  simp only [cellsV, recV, List.mem_cons, List.not_mem_nil, or_false] at hu
  rcases hu with rfl | rfl | rfl | rfl | rfl | rfl | rfl <;> rfl
theorem RowsR.each {S : List Nat} {w : World} {vs : List Value} {L : List RecD} (h : RowsR S w vs L) : ∀ u, u ∈ vs → (cellsV u).length = 7 ∧ ∀ y ∈ cellsV u, y.oneCell' = true := fun u hu => by
  obtain ⟨i, hi⟩ := List.mem_iff_getElem?.1 hu
  have hl : i < L.length := by rw [← h.1]; exact (List.getElem?_eq_some_iff.1 hi).1
  exact recF_cells (h.2 i u _ hi (List.getElem?_eq_getElem hl))
theorem flat_len {k : Nat} : ∀ (vs : List Value), (∀ u, u ∈ vs → (cellsV u).length = k) → (vs.flatMap cellsV).length = vs.length * k
  | [], _ => by simp
  | x :: vs, h => by
    rw [List.flatMap_cons, List.length_append, h x (List.mem_cons_self ..), flat_len vs (fun u hu => h u (List.mem_cons_of_mem _ hu)), List.length_cons, Nat.succ_mul, Nat.add_comm]
theorem recs_cells {S : List Nat} {w : World} {p : Option Addr} {L : List RecD} (h : RecsF S w p L) : ∃ vs, RowsR S w vs L ∧ CellsAt 7 w p L.length (vs.flatMap cellsV) := by
  rcases Nat.eq_zero_or_pos L.length with h0 | h0
  · exact ⟨[], ⟨h0.symm, fun i v r h1 => by simp at h1⟩, by simp [h0], fun u hu => by simp at hu, fun hm => by omega⟩
  · obtain ⟨g, o, rfl, hg, hS, hc⟩ := h h0
    have hch : ∀ i, i < L.length → ∃ v : Value, ∀ r, L[i]? = some r → RecF S w v r ∧ ∀ (j : Nat) (u : Value), (cellsV v)[j]? = some u → w.cell? ⟨g, o + i * 7 + j, none⟩ = some u := fun i hi => by
      obtain ⟨v, hv⟩ := hc i _ (List.getElem?_eq_getElem hi)
      exact ⟨v, fun r hr => by rw [List.getElem?_eq_getElem hi] at hr; injection hr with hr; subst hr; exact hv⟩
    obtain ⟨V, hV⟩ := Deep.choose_lt hch
    have hget : ∀ (i : Nat) (v : Value), ((List.range L.length).map V)[i]? = some v → i < L.length ∧ v = V i := fun i v h1 => by
      have hi : i < L.length := by have := (List.getElem?_eq_some_iff.1 h1).1; simpa using this
      refine ⟨hi, ?_⟩
      simp [hi] at h1
      exact h1.symm
    have hR : RowsR S w ((List.range L.length).map V) L := ⟨by simp, fun i v r h1 h2 => by
      obtain ⟨hi, rfl⟩ := hget i v h1
      exact (hV i hi r h2).1⟩
    refine ⟨_, hR, ?_, fun u hu => ?_, fun _ => ⟨g, o, rfl, hg, fun j u hu => ?_⟩⟩
    · rw [flat_len (k := 7) _ (fun u hu => (hR.each u hu).1)]; simp
    · obtain ⟨x, hx, hux⟩ := List.mem_flatMap.1 hu
      exact (hR.each x hx).2 u hux
    · have hj : j < L.length * 7 := by
        have h1 := (List.getElem?_eq_some_iff.1 hu).1
        rw [flat_len (k := 7) _ (fun u hu => (hR.each u hu).1)] at h1
        simpa using h1
      have hi : j / 7 < L.length := by omega
      have h2 := flat_get 7 _ (j / 7) (V (j / 7)) (fun u hu => (hR.each u hu).1) (by simp [hi]) (j % 7) (by omega)
      rw [show j / 7 * 7 + j % 7 = j by omega] at h2
      rw [h2] at hu
      have h3 := (hV (j / 7) hi _ (List.getElem?_eq_getElem hi)).2 (j % 7) u hu
      rw [show o + j / 7 * 7 + j % 7 = o + j by omega] at h3
      exact h3
theorem rowsR_app {S : List Nat} {w : World} {vs vs2 : List Value} {L L2 : List RecD} (h : RowsR S w vs L) (h2 : RowsR S w vs2 L2) : RowsR S w (vs ++ vs2) (L ++ L2) := ⟨by rw [List.length_append, List.length_append, h.1, h2.1], fun i v r e1 e2 => by
  rcases Nat.lt_or_ge i L.length with hi | hi
  · rw [List.getElem?_append_left (by rw [h.1]; exact hi)] at e1
    rw [List.getElem?_append_left hi] at e2
    exact h.2 i v r e1 e2
  · rw [List.getElem?_append_right (by rw [h.1]; exact hi), h.1] at e1
    rw [List.getElem?_append_right hi] at e2
    exact h2.2 _ v r e1 e2⟩
theorem RowsR.ext {S S' : List Nat} {w w' : World} {vs : List Value} {L : List RecD} (h : RowsR S w vs L) (hb : Ext S w S' w') : RowsR S' w' vs L := ⟨h.1, fun i v r e1 e2 => (h.2 i v r e1 e2).ext hb⟩
/-- a row of one's own that holds records of elsewhere, to be read -/
theorem own_recs {B : Nat} {w : World} {v : Value} {vs : List Value} {L : List RecD} {S : List Nat} (h1 : w.ownsRow B 25 7 v L.length (vs.flatMap cellsV)) (h2 : RowsR S w vs L) (hS : ∀ g, v.ownBlock = some g → g ∉ S) : ∃ p c, v = .slice p L.length c ∧ RecsF S w p L := by
  obtain ⟨p, c, rfl⟩ := own_sl h1
  refine ⟨p, c, rfl, fun hm => ?_⟩
  rcases h1.2 with ⟨e, e2⟩ | ⟨g, cap, cur, e, b1, b2, _⟩
  · omega
  · injection e with e
    subst e
    refine ⟨g, 0, rfl, (Array.getElem?_eq_some_iff.1 b2).1, hS g rfl, fun i r hr => ?_⟩
    have hi := (List.getElem?_eq_some_iff.1 hr).1
    have hv : i < vs.length := by rw [h2.1]; exact hi
    have hO := h2.2 i _ r (List.getElem?_eq_getElem hv) hr
    refine ⟨_, hO, fun j u hu => ?_⟩
    have hj : j < 7 := by rw [← (recF_cells hO).1]; exact (List.getElem?_eq_some_iff.1 hu).1
    have h3 : (i + 1) * 7 ≤ L.length * 7 := Nat.mul_le_mul_right _ hi
    rw [Nat.zero_add, h1.cellAt (i * 7 + j) (by omega), ← hu]
    exact flat_get 7 vs i _ (fun u hu => (h2.each u hu).1) (List.getElem?_eq_getElem hv) j hj
end Go.Proofs.Ytdgaoljobpneaaa
