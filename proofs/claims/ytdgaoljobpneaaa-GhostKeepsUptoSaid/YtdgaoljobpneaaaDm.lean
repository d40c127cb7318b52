/- Rows of dots of one's own. -/
import Derived.Test.YtdgaoljobpneaaaJe
import Derived.Maps.AppendAt
import Derived.OwnWalk
namespace Go.Proofs.Ytdgaoljobpneaaa
open Go.RowKit
def dotL (xs : List Int) : List Value := xs.map (.int .i64 ·)
theorem dotL_len (xs : List Int) : (dotL xs).length = xs.length := by simp [dotL]
theorem dotL_one (xs : List Int) : ∀ u ∈ dotL xs, u.oneCell' = true := fun u hu => by
  obtain ⟨j, _, rfl⟩ := List.mem_map.1 hu
  rfl
theorem add_lit2 (g o j : Nat) : (⟨g, o, none⟩ : Addr).add j = ⟨g, o + j, none⟩ := add_o g o j
theorem own_form {w : World} {B m : Nat} {v : Value} {ds : List Int} (h : w.ownsRow B 86 2 v m (dotL ds)) : ∃ q cc, v = .slice q m cc ∧ DotsL w q m ds := by
  have hl : ds.length = 2 * m := by have := h.1; rw [dotL_len] at this; omega
  rcases h.2 with ⟨rfl, rfl⟩ | ⟨g, cap, cur, rfl, h1, h2, h3, h4, h5, h6⟩
  · exact ⟨none, 0, rfl, hl, fun h => by omega⟩
  · refine ⟨some ⟨g, 0, none⟩, cap, rfl, hl, fun _ => ⟨g, 0, rfl, (Array.getElem?_eq_some_iff.1 h2).1, fun j hj => ?_⟩⟩
    rw [Nat.zero_add, h.cellAt j (by omega)]
    have hj2 : j < ds.length := by omega
    simp [dotL, hj2]
theorem own_dots {w : World} {B m cc : Nat} {q : Option Addr} {ds : List Int} (h : w.ownsRow B 86 2 (.slice q m cc) m (dotL ds)) : DotsL w q m ds := by
  obtain ⟨q', cc', e, h2⟩ := own_form h
  injection e with e1 e2 e3
  subst e1
  exact h2
theorem dots_blk {w : World} {g : Nat} {t : TypeId} (n : Nat) (xs : List Int) (h : Blk w g t (dotL xs).toArray) (hl : xs.length = 2 * n) : DotsL w (some ⟨g, 0, none⟩) n xs := ⟨hl, fun _ => ⟨g, 0, rfl, h.lt, fun j hj => by
  have hj2 : j < xs.length := by omega
  rw [Nat.zero_add, h.cell j]
  simp [dotL, hj2]⟩⟩
theorem dotL_app (xs ys : List Int) : dotL xs ++ dotL ys = dotL (xs ++ ys) := by simp [dotL]
theorem run_appD2 (w : World) (ty : TypeId) (base : Nat) (v : Value) (n : Nat) (ys xs : List Int) (hown : w.ownsRow base 86 2 v n (dotL ys)) (p : Option Addr) (m c : Nat) (hX : DotsL w p m xs)
    (hb : n + m ≤ 100000000) (hbase : base ≤ w.heap.size) :
    ∃ v' w', (Builtin.append_ #[22, 22] ty #[v, .slice p m c]).run Try.prog w = .ok v' w' ∧ w'.ownsRow base 86 2 v' (n + m) (dotL (ys ++ xs)) ∧ w.grownBy w' v.ownBlock ∧ (v'.ownBlock = v.ownBlock ∨ v'.ownBlock = some w.heap.size) := by
  obtain ⟨i, hi, hz, hs, hby⟩ := info_parts dot_info
  have hxl := hX.1
  have hone : ∀ ad : Addr, (∀ j u, (dotL xs)[j]? = some u → w.cell? (ad.add j) = some u) → p = some ad → ∃ v' w', (Builtin.append_ #[22, 22] ty #[v, .slice p m c]).run Try.prog w = .ok v' w' ∧ w'.ownsRow base 86 2 v' (n + m) (dotL (ys ++ xs)) ∧ w.grownBy w' v.ownBlock ∧ (v'.ownBlock = v.ownBlock ∨ v'.ownBlock = some w.heap.size) := fun ad h hp => by
    subst hp
    obtain ⟨v', w', h1, h2, h3, h4, h5⟩ := run_append_own_at (P := Try.prog) w base 22 ty 86 i (.agg #[.int .i64 0, .int .i64 0]) 2 16 ds_under hi hz hs hby rfl (by decide) v n (dotL ys) hown ad m c (dotL xs) (by rw [dotL_len, hxl]; omega) h (dotL_one xs) (by unfold maxLen; omega) (by omega) hbase
    exact ⟨v', w', h1, by rw [← dotL_app]; exact h2, h3, h5⟩
  by_cases h0 : m = 0
  · subst h0
    obtain rfl : xs = [] := List.eq_nil_of_length_eq_zero (by omega)
    cases p with
    | some ad => exact hone ad (fun j u hu => by simp [dotL] at hu) rfl
    | none =>
      rcases hown with ⟨hl, ⟨rfl, rfl⟩ | ⟨g, cap, cur, rfl, h1, h2, h3, h4, h5, h6⟩⟩
      · refine ⟨.slice none 0 0, w, ?_, ⟨by simpa using hl, .inl ⟨rfl, rfl⟩⟩, ⟨rfl, rfl, rfl, Nat.le_refl _, fun _ _ _ => rfl⟩, .inl rfl⟩
        simp [Builtin.append_, run_underlying ds_under, sizeOf, typeInfo, hi, Builtin.lenOf, Builtin.firstCells]
      · have hr := run_append_room_src (P := Try.prog) w 22 22 ty 86 i ds_under hi g 0 n cap (.slice none 0 c) 0 [] (Src.ofNil w ds_under c) (by omega) (fun j hj => absurd hj (by simp)) (fun j hj => absurd hj (by simp))
        simp only [Nat.add_zero, World.setCells] at hr
        exact ⟨_, w, hr, ⟨by simpa using hl, .inr ⟨g, cap, cur, rfl, h1, h2, h3, h4, h5, by simpa using h6⟩⟩, ⟨rfl, rfl, rfl, Nat.le_refl _, fun _ _ _ => rfl⟩, .inl rfl⟩
  · obtain ⟨g, o, rfl, _, hc⟩ := hX.2 (by omega)
    refine hone _ (fun j u hu => ?_) rfl
    rw [add_lit2]
    have hj : j < xs.length := by
      rcases Nat.lt_or_ge j xs.length with h | h
      · exact h
      · rw [List.getElem?_eq_none (by rw [dotL_len]; exact h)] at hu
        cases hu
    rw [hc j (by omega), ← hu]
    simp [dotL, hj]
section
variable {ops : Array Oper} {rest : List Oper} {o : Oper} {a : Act} {w : World} {Q : Exit → Act → World → Prop}
theorem wpList_appD2 (hgd : o.guard = none) {s x : Operand} (ho : o.op = .call { callee := .builtin .append, args := #[s, x], argTypes := #[22, 22] }) {v : Value} (hs : a.eval s = v) {base n : Nat} {ys xs : List Int} (hown : w.ownsRow base 86 2 v n (dotL ys))
    {p : Option Addr} {m c : Nat} (hx : a.eval x = .slice p m c) (hX : DotsL w p m xs) (hb : n + m ≤ 100000000) (hbase : base ≤ w.heap.size)
    (h : ∀ v' w', w'.ownsRow base 86 2 v' (n + m) (dotL (ys ++ xs)) → w.grownBy w' v.ownBlock → (v'.ownBlock = v.ownBlock ∨ v'.ownBlock = some w.heap.size) → wpList Try.prog ops Q rest (a.put o.dst v') w') : wpList Try.prog ops Q (o :: rest) a w :=
  wpList_plain hgd fun _ hK => by
    obtain ⟨v', w', hr, h2, h3, h4⟩ := run_appD2 w o.type base v n ys xs hown p m c hX hb hbase
    unfold Oper.wp execOp
    simp only [ho, resolve, invoke, builtin, Sem.run_bind, Sem.run_pure, Result.andThen_ok, List.map_toArray, List.map_cons, List.map_nil, hs, hx, hr]
    exact hK _ _ (h v' w' h2 h3 h4)
end
end Go.Proofs.Ytdgaoljobpneaaa
