/- slices.Insert of one dot: a new row. -/
import Derived.Test.YtofgkfdfondajaaGreatWj
import Derived.Lib.AppendZerosOnto
namespace Go.Proofs.YtofgkfdfondajaaGreat
open Go.RowKit
theorem wpList_apprun {ops : Array Oper} {rest : List Oper} {o : Oper} {a : Act} {w w' : World} {Q : Exit → Act → World → Prop} (hgd : o.guard = none) {s x : Operand} {t t' : TypeId} (ho : o.op = .call { callee := .builtin .append, args := #[s, x], argTypes := #[t, t'] }) (v u v' : Value) (hs : a.eval s = v) (hx : a.eval x = u) (hr : (Builtin.append_ #[t, t'] o.type #[v, u]).run Tryz.prog w = .ok v' w')
    (h : wpList Tryz.prog ops Q rest (a.put o.dst v') w') : wpList Tryz.prog ops Q (o :: rest) a w :=
  wpList_plain hgd fun _ hK => by
    unfold Oper.wp execOp
    simp only [ho, resolve, invoke, builtin, Sem.run_bind, Sem.run_pure, Result.andThen_ok, List.map_toArray, List.map_cons, List.map_nil, hs, hx, hr]
    exact hK _ _ h
theorem int_under : Tryz.prog.underlying 3 = some (.int .i64) := by kernel_rfl
set_option maxRecDepth 20000 in
set_option maxHeartbeats 4000000 in
theorem insert_grow (B n i g cap vb : Nat) (ds : List Int) (x y : Int) (w : World) (hown : w.ownsRow B 35 2 (.slice (some ⟨g, 0, none⟩) n cap) n (dotL ds)) (hB : B ≤ w.heap.size) (hV : Blk w vb 35 #[.int .i64 x, .int .i64 y]) (hi : i < n) (hroom : cap < n + 1) (hn : n ≤ 1000000) :
    Calls Tryz.prog 35 #[.slice (some ⟨g, 0, none⟩) n cap, .int .i64 i, .slice (some ⟨vb, 0, none⟩) 1 1] w (PostI B (.slice (some ⟨g, 0, none⟩) n cap) n (ds.take (i * 2) ++ [x, y] ++ ds.drop (i * 2)) w) := by
  obtain ⟨C, a1, a2, a3, a4, a5, a6⟩ := own_blk hown
  obtain ⟨i0, hi0, hz0, hs0, hby⟩ := info_parts dot_info
  have hsz : (Tryz.prog.info? 35).map (·.size) = some 2 := by kernel_rfl
  have hl : ds.length = n * 2 := by rwa [dotL_len] at a1
  have hql : (ds.drop (i * 2)).length = (n - i) * 2 := by rw [List.length_drop, hl]; omega
  have htl : (dotL (ds.take (i * 2))).length = i * 2 := by rw [dotL_len, List.length_take, hl]; omega
  have hcell : ∀ j, j < n * 2 → w.cell? ⟨g, j, none⟩ = (dotL ds)[j]? := fun j hj => by
    rw [a6.cell]
    simp only [List.getElem?_toArray]
    exact List.getElem?_append_left (by rw [dotL_len, hl]; exact hj)
  have hgw : g < w.heap.size := a6.lt
  have hvw : vb < w.heap.size := hV.lt
  obtain ⟨G, hG⟩ : ∃ G, G = grownCap w (n + 1) cap 35 := ⟨_, rfl⟩
  have hG1 : n + 1 ≤ G := by rw [hG]; exact grownCap_ge w _ _ _
  have hG2 : G ≤ maxLen := by rw [hG]; exact grownCap_le_maxLen w (n + 1) cap 35 (by unfold maxLen; omega)
  have hold : (Builtin.firstCells i0.size i (.slice (some ⟨g, 0, none⟩) i cap)).run Tryz.prog w.drew = .ok (dotL (ds.take (i * 2))).toArray w.drew := by
    rw [hs0]
    refine run_firstCells_some w.drew 2 i ⟨g, 0, none⟩ i cap (dotL (ds.take (i * 2))) htl (fun j v hj => ?_)
    have hj2 : j < i * 2 := by
      rcases Nat.lt_or_ge j (i * 2) with h | h
      · exact h
      · rw [List.getElem?_eq_none (by rw [htl]; exact h)] at hj; cases hj
    rw [add_lit2, Nat.zero_add]
    have h1 : (dotL ds)[j]? = (dotL (ds.take (i * 2)))[j]? := by simp [dotL, hj2]
    exact ((hcell j (by omega)).trans h1).trans hj
  obtain ⟨Z, hZ⟩ : ∃ Z : List Value, Z = (Builtin.zeroCells (Value.agg #[.int .i64 0, .int .i64 0]).cells (n + 1 - i) ++ Builtin.zeroCells (Value.agg #[.int .i64 0, .int .i64 0]).cells (G - (n + 1))).toList := ⟨_, rfl⟩
  have hZl : Z.length = (G - i) * 2 := by
    rw [hZ]
    simp [size_zeroCells, Value.cells]
    omega
  have hrz : ∀ ty, (Builtin.append_ #[39, 3] ty #[.slice (some ⟨g, 0, none⟩) i cap, .int .i64 ((n : Int) + 1 - (i : Int))]).run Tryz.prog w = .ok (.slice (some ⟨w.heap.size, 0, none⟩) (n + 1) G) (w.drew.alloc (.cells (dotL (ds.take (i * 2)) ++ Z).toArray 35)) := fun ty => by
    have h := Lib.run_append_grow_zeros w 39 3 ty 35 i0 _ .i64 .i64 dots_under int_under hi0 hz0 (some ⟨g, 0, none⟩) i cap (dotL (ds.take (i * 2))) hold (n + 1 - i) (by omega) (by omega) (by omega) (by omega) (by rw [hby]; omega) (by rw [hby, show i + (n + 1 - i) = n + 1 by omega]; exact growslice_fits hroom (by omega))
    rw [show i + (n + 1 - i) = n + 1 by omega, ← hG] at h
    rw [show (n : Int) + 1 - (i : Int) = ((n + 1 - i : Nat) : Int) by omega, h]
    congr 3
    rw [hZ]
    simp
  obtain ⟨W1, hW1⟩ : ∃ W1, W1 = w.drew.alloc (.cells (dotL (ds.take (i * 2)) ++ Z).toArray 35) := ⟨_, rfl⟩
  rw [← hW1] at hrz
  have hbw : Below w.heap.size w W1 := by rw [hW1]; exact ((Below.refl _ _).drew).alloc (Nat.le_refl _) _
  obtain ⟨z1, z2, Z2, hZe⟩ : ∃ z1 z2 Z2, Z = z1 :: z2 :: Z2 := by
    have : 2 ≤ Z.length := by rw [hZl]; omega
    match Z, this with
    | z1 :: z2 :: Z2, _ => exact ⟨z1, z2, Z2, rfl⟩
  have hB1 : Blk W1 w.heap.size 35 (dotL (ds.take (i * 2)) ++ ([z1, z2] ++ Z2)).toArray := by
    rw [hW1, hZe]
    exact Blk.new w.drew _ _
  have hZ2 : Z2.length + 2 = (G - i) * 2 := by rw [← hZl, hZe]; simp
  have hcpA : ∀ ty dc, (Builtin.copy_ #[39, 23] ty #[.slice (some ⟨w.heap.size, i * 2, none⟩) (n + 1 - i) dc, .slice (some ⟨vb, 0, none⟩) 1 1]).run Tryz.prog W1 = .ok (goInt 1) (W1.setCells w.heap.size (i * 2) (dotL [x, y])) := fun ty dc =>
    run_copy2 W1 _ _ ty 35 w.heap.size (i * 2) (n + 1 - i) dc ⟨vb, 0, none⟩ 1 1 1 (dotL [x, y]) dots_under hsz rfl (by simp only [Nat.min_def]; split <;> omega)
      (fun j v hj => World.news_of_block (hV.below hbw) j v hj)
      (fun j hj => by
        have : j < 2 := by simpa [dotL] using hj
        rw [hB1.cell, Array.getElem?_eq_getElem (by simp only [List.size_toArray, List.length_append, htl, List.length_cons, List.length_nil]; omega)]
        rfl) (fun j hj => hB1.frozen _) (dotL_one _)
  obtain ⟨W2, hW2⟩ : ∃ W2, W2 = W1.setCells w.heap.size (i * 2) (dotL [x, y]) := ⟨_, rfl⟩
  have hB2 := blk_mid [z1, z2] (dotL (ds.take (i * 2))) Z2 W1 hB1 (dotL [x, y]) rfl
  rw [htl, ← hW2] at hB2
  rw [← hW2] at hcpA
  have hg2 : W1.grownBy W2 (some w.heap.size) := by rw [hW2]; exact grown_setCells _ _ _ _
  have hcpB : ∀ ty dc sc, (Builtin.copy_ #[39, 39] ty #[.slice (some ⟨w.heap.size, (i + 1) * 2, none⟩) (n - i) dc, .slice (some ⟨g, i * 2, none⟩) (n - i) sc]).run Tryz.prog W2.drew = .ok (goInt (n - i : Nat)) (W2.drew.setCells w.heap.size ((i + 1) * 2) (dotL (ds.drop (i * 2)))) := fun ty dc sc =>
    run_copy2 W2.drew _ _ ty 35 w.heap.size ((i + 1) * 2) (n - i) dc ⟨g, i * 2, none⟩ (n - i) sc (n - i) (dotL (ds.drop (i * 2))) dots_under hsz (by rw [dotL_len, hql]) (by simp only [Nat.min_def]; split <;> omega)
      (fun j v hj => by
        rw [add_lit2]
        have hjl : j < (n - i) * 2 := by
          rcases Nat.lt_or_ge j ((n - i) * 2) with h | h
          · exact h
          · rw [List.getElem?_eq_none (by rw [dotL_len, hql]; exact h)] at hj; cases hj
        have h1 : W2.cell? ⟨g, i * 2 + j, none⟩ = w.cell? ⟨g, i * 2 + j, none⟩ := (hg2.cell_far ⟨g, i * 2 + j, none⟩ (Nat.lt_of_lt_of_le hgw hbw.size) (fun h => by injection h with h; exact absurd h (Nat.ne_of_lt hgw))).trans (hbw.cell (p := ⟨g, i * 2 + j, none⟩) hgw)
        have h3 : (dotL ds)[i * 2 + j]? = (dotL (ds.drop (i * 2)))[j]? := by simp [dotL]
        exact ((h1.trans (hcell _ (by omega))).trans h3).trans hj)
      (fun j hj => by
        rw [dotL_len, hql] at hj
        rw [show W2.drew.cell? ⟨w.heap.size, (i + 1) * 2 + j, none⟩ = _ from hB2.cell _, Array.getElem?_eq_getElem (by simp only [List.size_toArray, List.length_append, htl, dotL_len, List.length_cons, List.length_nil]; omega)]
        rfl) (fun j hj => hB2.frozen _) (dotL_one _)
  obtain ⟨W3, hW3⟩ : ∃ W3, W3 = W2.drew.setCells w.heap.size ((i + 1) * 2) (dotL (ds.drop (i * 2))) := ⟨_, rfl⟩
  rw [← hW3] at hcpB
  have hZt : Z2 = Z2.take ((n - i) * 2) ++ Z2.drop ((n - i) * 2) := (List.take_append_drop _ _).symm
  have hB3 := blk_mid (Z2.take ((n - i) * 2)) (dotL (ds.take (i * 2)) ++ dotL [x, y]) (Z2.drop ((n - i) * 2)) W2.drew (g := w.heap.size) (t := 35) (by
    rw [← hZt, List.append_assoc]
    exact hB2) (dotL (ds.drop (i * 2))) (by rw [dotL_len, hql, List.length_take]; omega)
  rw [List.length_append, htl, show i * 2 + (dotL [x, y]).length = (i + 1) * 2 by simp [dotL]; omega, ← hW3] at hB3
  have hg3 : W2.grownBy W3 (some w.heap.size) := by
    rw [hW3]
    have h := grown_setCells w.heap.size (dotL (ds.drop (i * 2))) ((i + 1) * 2) W2.drew
    exact ⟨h.os, h.tape, h.output, h.size, h.block⟩
  have hgr : w.grownBy W3 (some g) := by
    have hb2 := hbw.grown hg2 hbw.size (fun k h => by injection h with h; omega)
    have hb3 := hb2.grown hg3 hb2.size (fun k h => by injection h with h; omega)
    exact ⟨hb3.os, hb3.tape, hb3.output, hb3.size, fun k hk _ => hb3.block k hk⟩
  have hP : PostI B (.slice (some ⟨g, 0, none⟩) n cap) n (ds.take (i * 2) ++ [x, y] ++ ds.drop (i * 2)) w (.returned (.slice (some ⟨w.heap.size, 0, none⟩) (n + 1) G)) W3 := by
    refine ⟨_, rfl, blk_own (C := Z2.drop ((n - i) * 2)) (by
      have e : dotL (ds.take (i * 2) ++ [x, y] ++ ds.drop (i * 2)) ++ Z2.drop ((n - i) * 2) = (dotL (ds.take (i * 2)) ++ dotL [x, y]) ++ (dotL (ds.drop (i * 2)) ++ Z2.drop ((n - i) * 2)) := by simp [dotL]
      rw [e]
      exact hB3) (by
      simp only [dotL_len, List.length_append, List.length_cons, List.length_nil, hql] at htl ⊢
      omega) hB hG1 hG2 (by
      simp only [dotL_len, List.length_append, List.length_cons, List.length_nil, hql, List.length_drop] at htl ⊢
      omega), hgr, .inr rfl⟩
  have hi0' : (0 : Int) ≤ (i : Int) := by omega
  have hin : (i : Int) < (n : Int) := by omega
  have hne : ¬ (i : Int) = (n : Int) := by omega
  have hnc : (cap : Int) < (n : Int) + 1 := by omega
  have hw1 : IntKind.i64.wrap ((i : Int) + 1) = (i : Int) + 1 := IntWalk.i64_in _ (by omega)
  have hw2 : IntKind.i64.wrap ((n : Int) + 1) = (n : Int) + 1 := IntWalk.i64_in _ (by omega)
  have hw3 : IntKind.i64.wrap ((n : Int) + 1 - (i : Int)) = (n : Int) + 1 - (i : Int) := IntWalk.i64_in _ (by omega)
  have ht1 : ((i : Int) + 1).toNat = i + 1 := by omega
  have hb1 : (0 : Int) ≤ (i : Int) + 1 := by omega
  have hin2 : i ≤ n := by omega
  have hin3 : (i : Int) ≤ (n : Int) + 1 := by omega
  have hic : (i : Int) ≤ (cap : Int) := by omega
  have hcc1 : ¬ (cap = i) := by omega
  have hcc2 : ¬ (G = i) := by omega
  have hcc3 : ¬ (G = i + 1) := by omega
  clear hB1 hB2 hB3 hg2 hg3 hgr hbw hW1 hW2 hW3 hZ hZe hZl hZ2 hZt hold hcell a1 a5 a6 hown hV hG hG2 hql htl hl hi0 hz0 hs0 hby hn a4 hsz
  generalize ds.take (i * 2) ++ [x, y] ++ ds.drop (i * 2) = es at *
  generalize ds.drop (i * 2) = Qs at *
  replace hP := Lib.hid hP
  go_enter Tryz.func35, Tryz.ntmps35
  go_wp2_with (first | (at_builtin; refine wpList_apprun rfl rfl (.slice (some ⟨g, 0, none⟩) i cap) (.int .i64 ((n : Int) + 1 - (i : Int))) _ rfl rfl (hrz _) ?_) | (at_builtin; refine wpList_copy_runI (v := .slice (some ⟨w.heap.size, i * 2, none⟩) (n + 1 - i) (G - i)) (u := .slice (some ⟨vb, 0, none⟩) 1 1) _ rfl _ _ 39 23 rfl (by simp [Act.eval, Act.put]) (by simp [Act.eval, Act.put]) (hcpA _ _) ?_))
  go_region_law (refine step_copy_runI (v := .slice (some ⟨w.heap.size, (i + 1) * 2, none⟩) (n - i) (G - (i + 1))) (u := .slice (some ⟨g, i * 2, none⟩) (n - i) (cap - i)) rfl _ _ 39 39 rfl (by simp [Act.eval, Act.put]) (by simp [Act.eval, Act.put]) (hcpB _ _ _) ?_)
  go_wp2
  go_returns
  exact hP.out
theorem insert_c (B n i vb : Nat) (v : Value) (ds : List Int) (x y : Int) (w : World) (hown : w.ownsRow B 35 2 v n (dotL ds)) (hB : B ≤ w.heap.size) (hV : Blk w vb 35 #[.int .i64 x, .int .i64 y]) (hvb : v.ownBlock ≠ some vb) (hi : i ≤ n) (hn : n ≤ 1000000) :
    Calls Tryz.prog 35 #[v, .int .i64 i, .slice (some ⟨vb, 0, none⟩) 1 1] w (PostI B v n (ds.take (i * 2) ++ [x, y] ++ ds.drop (i * 2)) w) := by
  have hl : ds.length = n * 2 := by have := hown.1; rwa [dotL_len] at this
  by_cases he : i = n
  · subst he
    rw [List.take_of_length_le (by omega), List.drop_eq_nil_of_le (by omega), List.append_nil]
    exact insert_end B i vb v ds x y w hown hB hV hn
  · rcases hown.2 with ⟨_, h0⟩ | ⟨g, cap, cur, rfl, _⟩
    · omega
    · by_cases hr : n + 1 ≤ cap
      · exact insert_shift B n i g cap vb ds x y w hown hV (fun h => hvb (by rw [h]; rfl)) (by omega) hr hn
      · exact insert_grow B n i g cap vb ds x y w hown hB hV (by omega) (by omega) hn
end Go.Proofs.YtofgkfdfondajaaGreat
