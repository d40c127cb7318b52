/- Rows of dots, apart: told one by one; rows of rows appended. -/
import Derived.Test.YtofgkfdfondajaaGreatEh
import Derived.Test.YtofgkfdfondajaaGreatEf
namespace Go.Proofs.YtofgkfdfondajaaGreat
open Go.RowKit
/-- a row of dots: nil, or at a block from base on -/
def Rowy (base : Nat) (w : World) (v : Value) : Prop := v = .slice none 0 0 ∨ ∃ g n c f, v = .slice (some ⟨g, 0, none⟩) n c ∧ n ≤ 100000 ∧ base ≤ g ∧ RowE w g (n * 2) (c * 2) f
theorem Rowy.below {base : Nat} {w w' : World} {v : Value} (h : Rowy base w v) (hb : Below w.heap.size w w') : Rowy base w' v := by
  rcases h with h | ⟨g, n, c, f, h1, h2, h3, h4⟩
  · exact .inl h
  · exact .inr ⟨g, n, c, f, h1, h2, h3, h4.below hb⟩
theorem Rowy.blk {base : Nat} {w : World} {v : Value} (h : Rowy base w v) {b : Nat} (hb : v.ownBlock = some b) : base ≤ b ∧ b < w.heap.size := by
  rcases h with rfl | ⟨g, n, c, f, rfl, h2, h3, h4⟩
  · cases hb
  · obtain rfl : g = b := Option.some.inj hb
    exact ⟨h3, h4.lt⟩
theorem dotL_cD {ds : List Int} {N : Nat} (h : ds.length = N) : dotL ds = cD N (lD ds) := by
  apply List.ext_getElem?
  intro j
  by_cases hj : j < N
  · rw [cD_get _ _ j hj]
    have : j < ds.length := by omega
    simp [dotL, lD, this]
  · rw [List.getElem?_eq_none (by rw [dotL_len]; omega), List.getElem?_eq_none (by rw [cD_len]; omega)]
theorem rowy_own {base : Nat} {w : World} {v : Value} {n : Nat} {ds : List Int} (h : w.ownsRow base 35 2 v n (dotL ds)) (hn : n ≤ 100000) : Rowy base w v := by
  have hl : ds.length = n * 2 := by have := h.1; rwa [dotL_len] at this
  rcases h.2 with ⟨hv, _⟩ | ⟨g, cap, cur, rfl, hg, _⟩
  · exact .inl hv
  · rw [dotL_cD hl] at h
    exact .inr ⟨g, n, cap, _, rfl, hn, hg, rowE_of h⟩
theorem rowy_lent {base : Nat} {w : World} {g n cap : Nat} {ds : List Int} (h : w.ownsRow base 35 2 (.slice (some ⟨g, 0, none⟩) (n + 12) cap) (n + 12) (dotL ds)) (hn : n ≤ 100000) : Rowy base w (.slice (some ⟨g, 0, none⟩) n cap) := by
  have hl : ds.length = (n + 12) * 2 := by have := h.1; rwa [dotL_len] at this
  have hb := (h.lt g rfl).1
  rw [dotL_cD hl] at h
  exact .inr ⟨g, n, cap, _, rfl, hn, hb, (rowE_of h).cut (by omega)⟩
theorem Rws.snoc2 {B base : Nat} {vs : List Value} {w : World} (h : Rws B vs w) {v : Value} (hv : Rowy base w v) (hB : B ≤ base) (hne : ∀ k, k < vs.length → ∀ b b2, (vs.getD k undef).ownBlock = some b → v.ownBlock = some b2 → b ≠ b2) : Rws B (vs ++ [v]) w := by
  refine h.snoc ?_
  rcases hv with rfl | ⟨g, n, c, f, rfl, h2, h3, h4⟩
  · exact .inl rfl
  · exact .inr ⟨g, n, c, f, rfl, h2, Nat.le_trans hB h3, h4, fun k hk b hb => hne k hk b g hb rfl⟩
theorem ne_snoc {vs : List Value} {v u : Value} (h : ∀ k, k < vs.length → ∀ b b2, (vs.getD k undef).ownBlock = some b → u.ownBlock = some b2 → b ≠ b2) (h2 : ∀ b b2, v.ownBlock = some b → u.ownBlock = some b2 → b ≠ b2) : ∀ k, k < (vs ++ [v]).length → ∀ b b2, ((vs ++ [v]).getD k undef).ownBlock = some b → u.ownBlock = some b2 → b ≠ b2 := fun k hk b b2 hb hb2 => by
  by_cases e : k < vs.length
  · rw [getD_snoc e] at hb; exact h k e b b2 hb hb2
  · have : k = vs.length := by simp at hk; omega
    subst this
    rw [getD_last] at hb
    exact h2 b b2 hb hb2
theorem rowE_rowP {w : World} {g n c : Nat} {f : Nat → Int} {L C : Nat} {vs : List Value} (h : RowE w g n c f) (h2 : RowP w L C vs) : g ≠ L := fun e => by
  obtain ⟨cur, h3, _⟩ := h
  obtain ⟨cur2, h4, _⟩ := h2
  rw [e, h4] at h3
  injection h3 with h3
  injection h3 with _ h3
  exact absurd h3 (by decide)
theorem Rws.grown {B : Nat} {vs : List Value} {w w' : World} {row : Option Nat} (h : Rws B vs w) (hg : w.grownBy w' row) (hne : ∀ L, row = some L → ∃ C us, RowP w L C us) : Rws B vs w' := by
  obtain ⟨nl, gr, nr, cr, f, h1, h2⟩ := h
  exact ⟨nl, gr, nr, cr, f, fun k hk => ⟨(h1 k hk).1, (h1 k hk).2.1, (h1 k hk).2.2.1, fun hn => ⟨((h1 k hk).2.2.2 hn).1, ((h1 k hk).2.2.2 hn).2.grown hg (fun e => by
    obtain ⟨C, us, hP⟩ := hne _ e.symm
    exact rowE_rowP ((h1 k hk).2.2.2 hn).2 hP rfl)⟩⟩, h2⟩
theorem PV.row {B : Nat} {w : World} {v : Value} {vs : List Value} (h : PV B w v vs) : ∀ L, v.ownBlock = some L → ∃ C us, RowP w L C us := fun L hL => by
  rcases h with ⟨rfl, _⟩ | ⟨L', C, rfl, _, h3⟩
  · cases hL
  · obtain rfl : L' = L := Option.some.inj hL
    exact ⟨C, vs, h3⟩
/-- the rows that are lent: with marks behind them -/
def InS (w : World) (N : Nat → Nat) (Ls : Nat → List Int) (vs : List Value) : Prop := ∀ k, k < vs.length → ∃ g cap f, vs.getD k undef = .slice (some ⟨g, 0, none⟩) (N k) cap ∧ N k + 12 ≤ cap ∧ DotsL w (some ⟨g, 0, none⟩) (N k + 12) (Ls k ++ marksL 12) ∧ RowE w g (N k * 2) (cap * 2) f
theorem InS.below {w w' : World} {N : Nat → Nat} {Ls : Nat → List Int} {vs : List Value} (h : InS w N Ls vs) (hb : Below w.heap.size w w') : InS w' N Ls vs := fun k hk => by
  obtain ⟨g, cap, f, h1, h2, h3, h4⟩ := h k hk
  exact ⟨g, cap, f, h1, h2, h3.below hb, h4.below hb⟩
theorem InS.grown {w w' : World} {N : Nat → Nat} {Ls : Nat → List Int} {vs : List Value} {row : Option Nat} (h : InS w N Ls vs) (hg : w.grownBy w' row) (hne : ∀ L, row = some L → ∃ C us, RowP w L C us) : InS w' N Ls vs := fun k hk => by
  obtain ⟨g, cap, f, h1, h2, h3, h4⟩ := h k hk
  have hn : some g ≠ row := fun e => by
    obtain ⟨C, us, hP⟩ := hne _ e.symm
    exact rowE_rowP h4 hP rfl
  exact ⟨g, cap, f, h1, h2, h3.grown' hg (fun _ ad e => by injection e with e; subst e; exact hn), h4.grown hg hn⟩
theorem InS.snoc {w : World} {N : Nat → Nat} {Ls : Nat → List Int} {vs : List Value} (h : InS w N Ls vs) {k g cap : Nat} {f : Nat → Int} (hk : vs.length = k) (hc : N k + 12 ≤ cap) (hD : DotsL w (some ⟨g, 0, none⟩) (N k + 12) (Ls k ++ marksL 12)) (hR : RowE w g (N k * 2) (cap * 2) f) : InS w N Ls (vs ++ [.slice (some ⟨g, 0, none⟩) (N k) cap]) := fun j hj => by
  by_cases e : j < vs.length
  · rw [getD_snoc e]; exact h j e
  · have : j = vs.length := by simp at hj; omega
    subst this
    rw [getD_last, hk]
    exact ⟨g, cap, f, rfl, hc, hD, hR⟩
theorem lentD {w : World} {g n : Nat} {ds : List Int} (hl : ds.length = 2 * n) (h : DotsL w (some ⟨g, 0, none⟩) (n + 12) (ds ++ marksL 12)) : DotsL w (some ⟨g, 0, none⟩) n ds := by
  refine ⟨hl, fun _ => ?_⟩
  obtain ⟨g', o, e, h1, h2⟩ := h.2 (by omega)
  refine ⟨g', o, e, h1, fun j hj => ?_⟩
  rw [h2 j (by omega)]
  simp only [List.getD_eq_getElem?_getD]
  rw [List.getElem?_append_left (by omega)]
/-- rows appended onto a row of rows of one's own -/
theorem run_appR (w : World) (ty : TypeId) (base : Nat) (v : Value) (n : Nat) (ys xs : List Value) (hown : w.ownsRow base 23 1 v n ys) (p : Option Addr) (m c : Nat) (hm : xs.length = m) (hX : RowAt w p m (fun i => xs.getD i undef)) (h1 : ∀ u ∈ xs, u.oneCell' = true)
    (hb : n + m ≤ 100000000) (hbase : base ≤ w.heap.size) :
    ∃ v' w', (Builtin.append_ #[22, 22] ty #[v, .slice p m c]).run Tryz.prog w = .ok v' w' ∧ w'.ownsRow base 23 1 v' (n + m) (ys ++ xs) ∧ w.grownBy w' v.ownBlock := by
  obtain ⟨i, hi, hz, hs, hby⟩ := info_parts dss_info
  have hone : ∀ ad : Addr, (∀ j u, xs[j]? = some u → w.cell? (ad.add j) = some u) → p = some ad → ∃ v' w', (Builtin.append_ #[22, 22] ty #[v, .slice p m c]).run Tryz.prog w = .ok v' w' ∧ w'.ownsRow base 23 1 v' (n + m) (ys ++ xs) ∧ w.grownBy w' v.ownBlock := fun ad h hp => by
    subst hp
    obtain ⟨v', w', a1, a2, a3, a4, a5⟩ := run_append_own_at (P := Tryz.prog) w base 22 ty 23 i (.slice none 0 0) 1 24 (by kernel_rfl) hi hz hs hby rfl (by decide) v n ys hown ad m c xs (by omega) h h1 (by unfold maxLen; omega) (by omega) hbase
    exact ⟨v', w', a1, a2, a3⟩
  by_cases h0 : m = 0
  · subst h0
    obtain rfl : xs = [] := List.eq_nil_of_length_eq_zero hm
    cases p with
    | some ad => exact hone ad (fun j u hu => by simp at hu) rfl
    | none =>
      rcases hown with ⟨hl, ⟨rfl, rfl⟩ | ⟨g, cap, cur, rfl, b1, b2, b3, b4, b5, b6⟩⟩
      · refine ⟨.slice none 0 0, w, ?_, ⟨by simpa using hl, .inl ⟨rfl, rfl⟩⟩, ⟨rfl, rfl, rfl, Nat.le_refl _, fun _ _ _ => rfl⟩⟩
        simp [Builtin.append_, run_underlying (show Tryz.prog.underlying 22 = some (.slice 23) by kernel_rfl), sizeOf, typeInfo, hi, Builtin.lenOf, Builtin.firstCells]
      · have hr := run_append_room_src (P := Tryz.prog) w 22 22 ty 23 i (by kernel_rfl) hi g 0 n cap (.slice none 0 c) 0 [] (Src.ofNil w (e' := 23) (by kernel_rfl) c) (by omega) (fun j hj => absurd hj (by simp)) (fun j hj => absurd hj (by simp))
        simp only [Nat.add_zero, World.setCells] at hr
        exact ⟨_, w, hr, ⟨by simpa using hl, .inr ⟨g, cap, cur, rfl, b1, b2, b3, b4, b5, by simpa using b6⟩⟩, ⟨rfl, rfl, rfl, Nat.le_refl _, fun _ _ _ => rfl⟩⟩
  · obtain ⟨g, o, rfl, _, hc⟩ := hX (by omega)
    refine hone _ (fun j u hu => ?_) rfl
    rw [add_lit2]
    have hj : j < xs.length := by
      rcases Nat.lt_or_ge j xs.length with h | h
      · exact h
      · rw [List.getElem?_eq_none h] at hu
        cases hu
    rw [hc j (by omega), ← hu]
    simp [List.getD_eq_getElem?_getD, hj]
section
variable {ops : Array Oper} {rest : List Oper} {o : Oper} {a : Act} {w : World} {Q : Exit → Act → World → Prop}
theorem wpList_appR (hgd : o.guard = none) {s x : Operand} (ho : o.op = .call { callee := .builtin .append, args := #[s, x], argTypes := #[22, 22] }) {v : Value} (hs : a.eval s = v) {base n : Nat} {ys xs : List Value} (hown : w.ownsRow base 23 1 v n ys)
    {p : Option Addr} {m c : Nat} (hx : a.eval x = .slice p m c) (hm : xs.length = m) (hX : RowAt w p m (fun i => xs.getD i undef)) (h1 : ∀ u ∈ xs, u.oneCell' = true) (hb : n + m ≤ 100000000) (hbase : base ≤ w.heap.size)
    (h : ∀ v' w', w'.ownsRow base 23 1 v' (n + m) (ys ++ xs) → w.grownBy w' v.ownBlock → wpList Tryz.prog ops Q rest (a.put o.dst v') w') : wpList Tryz.prog ops Q (o :: rest) a w :=
  wpList_plain hgd fun _ hK => by
    obtain ⟨v', w', hr, h2, h3⟩ := run_appR w o.type base v n ys xs hown p m c hm hX h1 hb hbase
    unfold Oper.wp execOp
    simp only [ho, resolve, invoke, builtin, Sem.run_bind, Sem.run_pure, Result.andThen_ok, List.map_toArray, List.map_cons, List.map_nil, hs, hx, hr]
    exact hK _ _ (h v' w' h2 h3)
end
theorem rowP_of {w : World} {base n : Nat} {v : Value} {xs : List Value} (h : w.ownsRow base 23 1 v n xs) (hn : 0 < n) : ∃ L C, v = .slice (some ⟨L, 0, none⟩) n C ∧ base ≤ L ∧ RowP w L C xs := by
  obtain ⟨hl, ⟨_, h0⟩ | ⟨g, cap, cur, rfl, b1, b2, b3, b4, b5, b6⟩⟩ := h
  · omega
  · exact ⟨g, cap, rfl, b1, cur, b2, by omega, b4, by omega, by rw [show xs.length = n * 1 from hl]; exact b6⟩
theorem own_row {w : World} {base n : Nat} {v : Value} {xs : List Value} (h : w.ownsRow base 23 1 v n xs) : ∀ L, v.ownBlock = some L → ∃ C us, RowP w L C us := fun L hL => by
  obtain ⟨hl, ⟨rfl, _⟩ | ⟨g, cap, cur, rfl, b1, b2, b3, b4, b5, b6⟩⟩ := h
  · cases hL
  · obtain rfl : g = L := Option.some.inj hL
    exact ⟨cap, xs, cur, b2, by omega, b4, by omega, by rw [show xs.length = n * 1 from hl]; exact b6⟩
end Go.Proofs.YtofgkfdfondajaaGreat
