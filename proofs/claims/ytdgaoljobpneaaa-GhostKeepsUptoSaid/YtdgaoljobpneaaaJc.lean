/- The walks of SameDots, CopyBytes, CopyDots. -/
import Derived.Test.YtdgaoljobpneaaaJb
namespace Go.Proofs.Ytdgaoljobpneaaa
open Go.RowKit
/-- dots lie at p: two numbers a dot -/
def DotsL (w : World) (p : Option Addr) (n : Nat) (ds : List Int) : Prop := ds.length = 2 * n ∧ DotsAt w p n (fun j => ds.getD j 0)
theorem DotsL.below {w w' : World} {p : Option Addr} {n : Nat} {ds : List Int} (h : DotsL w p n ds) (hb : Below w.heap.size w w') : DotsL w' p n ds := ⟨h.1, h.2.below hb⟩
def PostD (n : Nat) (ds : List Int) (w : World) (e : Ending) (w' : World) : Prop := ∃ p c, e = .returned (.slice p n c) ∧ DotsL w' p n ds ∧ Below w.heap.size w w'
def dL (xs : List Int) : List Value := xs.map (.int .i64 ·)
theorem dL_len (xs : List Int) : (dL xs).length = xs.length := by simp [dL]
theorem dL_one (xs : List Int) : ∀ u ∈ dL xs, u.oneCell' = true := fun u hu => by
  obtain ⟨j, _, rfl⟩ := List.mem_map.1 hu
  rfl
theorem dot_info : (Try.prog.info? 86).map (fun i => (i.zero, i.size, i.bytes)) = some (some (.agg #[.int .i64 0, .int .i64 0]), 2, 16) := by kernel_rfl
theorem ds_under : Try.prog.underlying 22 = some (.slice 86) := by kernel_rfl
theorem run_appD (w : World) (ty : TypeId) (p : Option Addr) (n c : Nat) (ds : List Int) (hX : DotsL w p n ds) (hb : n ≤ 1000000) :
    ∃ v' w', (Builtin.append_ #[22, 22] ty #[.slice none 0 0, .slice p n c]).run Try.prog w = .ok v' w' ∧ w'.ownsRow w.heap.size 86 2 v' n (dL ds) ∧ w.grownBy w' none := by
  obtain ⟨i, hi, hz, hs, hby⟩ := info_parts dot_info
  have hone : ∀ ad : Addr, (∀ j u, (dL ds)[j]? = some u → w.cell? (ad.add j) = some u) → p = some ad → ∃ v' w', (Builtin.append_ #[22, 22] ty #[.slice none 0 0, .slice p n c]).run Try.prog w = .ok v' w' ∧ w'.ownsRow w.heap.size 86 2 v' n (dL ds) ∧ w.grownBy w' none := fun ad h hp => by
    subst hp
    obtain ⟨v', w', h1, h2, h3, h4, h5⟩ := run_append_own_at (P := Try.prog) w w.heap.size 22 ty 86 i _ 2 16 ds_under hi hz hs hby rfl (by decide) (.slice none 0 0) 0 [] ⟨rfl, .inl ⟨rfl, rfl⟩⟩ ad n c (dL ds) (by rw [dL_len, hX.1]; omega) h (dL_one ds) (by unfold maxLen; omega) (by omega) (Nat.le_refl _)
    exact ⟨v', w', h1, by rw [Nat.zero_add] at h2; exact h2, h3⟩
  by_cases h0 : n = 0
  · subst h0
    have hd : ds = [] := List.eq_nil_of_length_eq_zero (by have := hX.1; omega)
    subst hd
    cases p with
    | some ad => exact hone ad (fun j u hu => by simp [dL] at hu) rfl
    | none =>
      refine ⟨.slice none 0 0, w, ?_, ⟨rfl, .inl ⟨rfl, rfl⟩⟩, ⟨rfl, rfl, rfl, Nat.le_refl _, fun _ _ _ => rfl⟩⟩
      simp [Builtin.append_, run_underlying ds_under, sizeOf, typeInfo, hi, Builtin.lenOf, Builtin.firstCells]
  · obtain ⟨g, o, rfl, _, hc⟩ := hX.2 (by omega)
    refine hone _ (fun j u hu => ?_) rfl
    rw [add_o]
    have hj : j < 2 * n := by
      rw [← hX.1, ← dL_len ds]
      rcases Nat.lt_or_ge j (dL ds).length with h | h
      · exact h
      · rw [List.getElem?_eq_none h] at hu
        cases hu
    rw [hc j hj, ← hu]
    have hj2 : j < ds.length := by rw [hX.1]; exact hj
    simp [dL, hj2]
section
variable {ops : Array Oper} {rest : List Oper} {o : Oper} {a : Act} {w : World} {Q : Exit → Act → World → Prop}
theorem wpList_appD (hgd : o.guard = none) {s x : Operand} (ho : o.op = .call { callee := .builtin .append, args := #[s, x], argTypes := #[22, 22] }) (hs : a.eval s = .slice none 0 0) {ds : List Int} {p : Option Addr} {n c : Nat} (hx : a.eval x = .slice p n c) (hX : DotsL w p n ds) (hb : n ≤ 1000000)
    (h : ∀ v' w', w'.ownsRow w.heap.size 86 2 v' n (dL ds) → w.grownBy w' none → wpList Try.prog ops Q rest (a.put o.dst v') w') : wpList Try.prog ops Q (o :: rest) a w :=
  wpList_plain hgd fun _ hK => by
    obtain ⟨v', w', hr, h2, h3⟩ := run_appD w o.type p n c ds hX hb
    unfold Oper.wp execOp
    simp only [ho, resolve, invoke, builtin, Sem.run_bind, Sem.run_pure, Result.andThen_ok, List.map_toArray, List.map_cons, List.map_nil, hs, hx, hr]
    exact hK _ _ (h v' w' h2 h3)
end
theorem postD_own {w w' : World} {v : Value} {n : Nat} {ds : List Int} (hl : ds.length = 2 * n) (h : w'.ownsRow w.heap.size 86 2 v n (dL ds)) (hb : Below w.heap.size w w') : PostD n ds w (.returned v) w' := by
  rcases h.2 with ⟨rfl, h0⟩ | ⟨g, cap, cur, rfl, h1, h2, h3, h4, h5, h6⟩
  · subst h0
    exact ⟨_, _, rfl, ⟨hl, fun hp => by omega⟩, hb⟩
  · refine ⟨_, _, rfl, ⟨hl, fun _ => ⟨g, 0, rfl, (Array.getElem?_eq_some_iff.1 h2).1, fun j hj => ?_⟩⟩, hb⟩
    rw [Nat.zero_add, h.cellAt j (by omega)]
    have hj2 : j < ds.length := by omega
    simp [dL, hj2]
set_option maxRecDepth 20000 in
set_option maxHeartbeats 4000000 in
theorem sameDots_c (p1 p2 : Option Addr) (n1 c1 n2 c2 : Nat) (xs ys : List Int) (hn : n1 ≤ 1000000) (hn2 : n2 ≤ 1000000) (w : World) (hX : DotsL w p1 n1 xs) (hY : DotsL w p2 n2 ys) :
    Calls Try.prog 47 #[.slice p1 n1 c1, .slice p2 n2 c2] w fun e w' => e = .returned (.bool (eqL xs ys)) ∧ Below w.heap.size w w' := by
  have h1 := hX.1
  have h2 := hY.1
  have hne : n1 ≠ n2 → eqL xs ys = false := fun h => decide_eq_false (fun e => h (by rw [e] at h1; omega))
  have hyes : n1 = n2 → (∀ j, j < n1 → xs.getD (j * 2) 0 = ys.getD (j * 2) 0 ∧ xs.getD (j * 2 + 1) 0 = ys.getD (j * 2 + 1) 0) → eqL xs ys = true := fun e h => decide_eq_true (ext_getD (by omega) (fun j hj => by
    have hq := h (j / 2) (by omega)
    rcases Nat.mod_two_eq_zero_or_one j with hm | hm
    · rw [show j = j / 2 * 2 by omega]; exact hq.1
    · rw [show j = j / 2 * 2 + 1 by omega]; exact hq.2))
  have hno : ∀ j, xs.getD j 0 ≠ ys.getD j 0 → eqL xs ys = false := fun j h => decide_eq_false (fun e => h (by rw [e]))
  have hXc : 0 < n1 → ∃ g o, p1 = some ⟨g, o, none⟩ ∧ g < w.heap.size ∧ ∀ j, j < 2 * n1 → w.cell? ⟨g, o + j, none⟩ = some (.int .i64 (xs.getD j 0)) := fun h => hX.2 (by omega)
  have hYc : 0 < n2 → ∃ g o, p2 = some ⟨g, o, none⟩ ∧ g < w.heap.size ∧ ∀ j, j < 2 * n2 → w.cell? ⟨g, o + j, none⟩ = some (.int .i64 (ys.getD j 0)) := fun h => hY.2 (by omega)
  generalize eqL xs ys = E at *
  obtain ⟨b1, hb1⟩ : ∃ b : Nat → Int, b = fun j => xs.getD j 0 := ⟨_, rfl⟩
  obtain ⟨b2, hb2⟩ : ∃ b : Nat → Int, b = fun j => ys.getD j 0 := ⟨_, rfl⟩
  replace hyes : n1 = n2 → (∀ j, j < n1 → b1 (j * 2) = b2 (j * 2) ∧ b1 (j * 2 + 1) = b2 (j * 2 + 1)) → E = true := by rw [hb1, hb2]; exact hyes
  replace hno : ∀ j, b1 j ≠ b2 j → E = false := by rw [hb1, hb2]; exact hno
  replace hXc : 0 < n1 → ∃ g o, p1 = some ⟨g, o, none⟩ ∧ g < w.heap.size ∧ ∀ j, j < 2 * n1 → w.cell? ⟨g, o + j, none⟩ = some (.int .i64 (b1 j)) := by rw [hb1]; exact hXc
  replace hYc : 0 < n2 → ∃ g o, p2 = some ⟨g, o, none⟩ ∧ g < w.heap.size ∧ ∀ j, j < 2 * n2 → w.cell? ⟨g, o + j, none⟩ = some (.int .i64 (b2 j)) := by rw [hb2]; exact hYc
  clear hX hY h1 h2 hb1 hb2
  replace hyes := Lib.hid hyes
  replace hno := Lib.hid hno
  replace hne := Lib.hid hne
  replace hXc := Lib.hid hXc
  replace hYc := Lib.hid hYc
  go_enter Try.func47, Try.ntmps47
  by_cases hn : n1 = n2
  · subst hn
    go_wp2
    go_loopw [5] (fun i wr => ∃ m : Nat, m ≤ n1 ∧ i = .int .i64 m ∧ (∀ j, j < m → b1 (j * 2) = b2 (j * 2) ∧ b1 (j * 2 + 1) = b2 (j * 2 + 1)) ∧ Below w.heap.size w wr) (fun i _ => (n1 - intOf i).toNat)
    case atStart => exact ⟨0, by omega, rfl, fun j h => absurd h (by omega), Below.refl _ _⟩
    case round =>
      obtain ⟨m, hm, hi, hI, hb⟩ := hrel
      subst hi
      by_cases hmn : m = n1
      · subst hmn
        have he := hyes.out (by trivial) hI
        replace he := Lib.hid he
        clear hm hI
        go_wp2
        go_returns
        exact ⟨by rw [he.out]; rfl, hb⟩
      · have hm' : (m : Int) < n1 := by omega
        have hm0 : (0 : Int) ≤ (m : Int) := by omega
        have hn0 : (n1 : Int) ≤ 1000000 := by omega
        obtain ⟨g1, o1, rfl, hg1, hB1⟩ := hXc.out (by omega)
        obtain ⟨g2, o2, rfl, hg2, hB2⟩ := hYc.out (by omega)
        have ca := (hb.cell (p := ⟨g1, o1 + m * 2, none⟩) hg1).trans (hB1 (m * 2) (by omega))
        have cb := (hb.cell (p := ⟨g2, o2 + m * 2, none⟩) hg2).trans (hB2 (m * 2) (by omega))
        have ca1 := (hb.cell (p := ⟨g1, o1 + (m * 2 + 1), none⟩) hg1).trans (hB1 (m * 2 + 1) (by omega))
        have cb1 := (hb.cell (p := ⟨g2, o2 + (m * 2 + 1), none⟩) hg2).trans (hB2 (m * 2 + 1) (by omega))
        rw [← Nat.add_assoc] at ca1 cb1
        have hm2 : m + 1 ≤ n1 := by omega
        clear hB1 hB2 hXc hYc
        have hIh := Lib.hid hI
        clear hI
        have hf := hno.out (m * 2)
        have hf1 := hno.out (m * 2 + 1)
        replace hf := Lib.hid hf
        replace hf1 := Lib.hid hf1
        have hI2 : b1 (m * 2) = b2 (m * 2) → b1 (m * 2 + 1) = b2 (m * 2 + 1) → ∀ j, j < m + 1 → b1 (j * 2) = b2 (j * 2) ∧ b1 (j * 2 + 1) = b2 (j * 2 + 1) := fun h1 h2 j hj => by
          by_cases e : j = m
          · rw [e]; exact ⟨h1, h2⟩
          · exact hIh.out j (by omega)
        replace hI2 := Lib.hid hI2
        clear hno hyes hne
        generalize b1 (m * 2) = x at *
        generalize b1 (m * 2 + 1) = y at *
        generalize b2 (m * 2) = x' at *
        generalize b2 (m * 2 + 1) = y' at *
        by_cases hx : x = x'
        · by_cases hy : y = y'
          · subst hx hy
            have hI3 := Lib.hid (hI2.out rfl rfl)
            clear hI2 hf hf1
            go_wp2
            go_region
            go_wp2
            exact ⟨⟨m + 1, hm2, rfl, hI3.out, hb.drew⟩, by simp [intOf]; omega⟩
          · have hE := Lib.hid (hf1.out hy)
            subst hx
            clear hI2 hf hf1
            go_wp2
            go_region
            go_wp2
            go_returns
            exact ⟨by rw [hE.out]; rfl, hb.drew⟩
        · have hE := Lib.hid (hf.out hx)
          clear hI2 hf hf1
          go_wp2
          go_region
          go_wp2
          go_returns
          exact ⟨by rw [hE.out]; rfl, hb.drew⟩
  · have hn3 : ((n1 : Int) == (n2 : Int)) = false := by simp; omega
    have hf := Lib.hid (hne.out hn)
    go_wp2
    go_returns
    exact ⟨by rw [hf.out]; rfl, Below.refl _ _⟩
end Go.Proofs.Ytdgaoljobpneaaa
