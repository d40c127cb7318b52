/- The walk of slices.Insert of one dot. -/
import Derived.Test.YtofgkfdfondajaaGreatWi
import Derived.Lib.Overlaps
import Derived.Laws.IdiomCopy
import Derived.Laws.Externs
import Derived.Deep.RegionLaw
import Derived.Shelf.Spec.SlicesInsert
namespace Go.Proofs.YtofgkfdfondajaaGreat
open Go.RowKit
section
variable {ops : Array Oper} {rest : List Oper} {o : Oper} {a : Act} {w : World} {Q : Exit → Act → World → Prop}
theorem wpList_app1 (hgd : o.guard = none) {s x : Operand} (ho : o.op = .call { callee := .builtin .append, args := #[s, x], argTypes := #[39, 23] }) {v : Value} (hs : a.eval s = v) {B n vb c : Nat} {ds : List Int} {x0 y0 : Int} (hown : w.ownsRow B 35 2 v n (dotL ds)) (hB : B ≤ w.heap.size) (hV : Blk w vb 35 #[.int .i64 x0, .int .i64 y0]) (hn : n ≤ 1000000)
    (hx : a.eval x = .slice (some ⟨vb, 0, none⟩) 1 c)
    (h : ∀ v' w', w'.ownsRow B 35 2 v' (n + 1) (dotL (ds ++ [x0, y0])) → w.grownBy w' v.ownBlock → (v'.ownBlock = v.ownBlock ∨ v'.ownBlock = some w.heap.size) → wpList Tryz.prog ops Q rest (a.put o.dst v') w') : wpList Tryz.prog ops Q (o :: rest) a w :=
  wpList_plain hgd fun _ hK => by
    obtain ⟨v', w', hr, h2, h3, h4⟩ := run_app1 (c := c) w o.type hown hB hV hn
    unfold Oper.wp execOp
    simp only [ho, resolve, invoke, builtin, Sem.run_bind, Sem.run_pure, Result.andThen_ok, List.map_toArray, List.map_cons, List.map_nil, hs, hx, hr]
    exact hK _ _ (h v' w' h2 h3 h4)
end
/-- what Insert answers -/
def PostI (B : Nat) (v : Value) (n : Nat) (es : List Int) (w : World) (e : Ending) (w' : World) : Prop := ∃ v', e = .returned v' ∧ w'.ownsRow B 35 2 v' (n + 1) (dotL es) ∧ w.grownBy w' v.ownBlock ∧ (v'.ownBlock = v.ownBlock ∨ v'.ownBlock = some w.heap.size)
set_option maxRecDepth 20000 in
set_option maxHeartbeats 4000000 in
theorem insert_end (B n vb : Nat) (v : Value) (ds : List Int) (x y : Int) (w : World) (hown : w.ownsRow B 35 2 v n (dotL ds)) (hB : B ≤ w.heap.size) (hV : Blk w vb 35 #[.int .i64 x, .int .i64 y]) (hn : n ≤ 1000000) :
    Calls Tryz.prog 35 #[v, .int .i64 n, .slice (some ⟨vb, 0, none⟩) 1 1] w (PostI B v n (ds ++ [x, y]) w) := by
  rcases hown.2 with ⟨hv, h0⟩ | ⟨g, cap, cur, hv, h1, h2, h3, h4, h5, h6⟩
  · subst hv h0
    replace hown := Lib.hid hown
    replace hV := Lib.hid hV
    go_enter Tryz.func35, Tryz.ntmps35
    go_wp2_with (refine wpList_app1 rfl rfl rfl hown.out hB hV.out hn rfl ?_; intro v' w2 hown2 hgr hat; have hP := Lib.hid (show PostI B (.slice none 0 0) 0 (ds ++ [x, y]) w (.returned v') w2 from ⟨v', rfl, hown2, hgr, hat⟩); clear hown2 hgr hat)
    go_returns
    exact hP.out
  · subst hv
    clear h2 h5 h6
    have hn0 : (0 : Int) ≤ (n : Int) := by omega
    have hnc : (n : Int) ≤ (cap : Int) := by omega
    replace hown := Lib.hid hown
    replace hV := Lib.hid hV
    go_enter Tryz.func35, Tryz.ntmps35
    go_wp2_with (refine wpList_app1 rfl rfl rfl hown.out hB hV.out hn rfl ?_; intro v' w2 hown2 hgr hat; have hP := Lib.hid (show PostI B (.slice (some ⟨g, 0, none⟩) n cap) n (ds ++ [x, y]) w (.returned v') w2 from ⟨v', rfl, hown2, hgr, hat⟩); clear hown2 hgr hat)
    all_goals
      go_returns
      exact hP.out
theorem run_copy2 {P : Program} (w : World) (dT sT ty elem : TypeId) (b o dLen dCap : Nat) (a : Addr) (sLen sCap k : Nat) (cs : List Value)
    (hu : P.underlying dT = some (.slice elem)) (hs : (P.info? elem).map (·.size) = some 2) (hn : cs.length = k * 2) (hk : k = Nat.min sLen dLen)
    (hsrc : ∀ j v, cs[j]? = some v → w.cell? (a.add j) = some v) (hc : ∀ j, j < cs.length → (w.cell? ⟨b, o + j, none⟩).isSome = true) (hf : ∀ j, j < cs.length → w.frozen? ⟨b, o + j, none⟩ = false) (h1 : ∀ v ∈ cs, v.oneCell' = true) :
    (Builtin.copy_ #[dT, sT] ty #[.slice (some ⟨b, o, none⟩) dLen dCap, .slice (some a) sLen sCap]).run P w = .ok (goInt k) (w.setCells b o cs) := by
  have hl := run_loadCells_list (P := P) w a cs hsrc
  have hst := run_storeCells_cells (P := P) b o cs 0 w (by simpa using hc) (by simpa using hf) h1
  rw [hn] at hl
  cases hq : P.info? elem with
  | none => simp [hq] at hs
  | some i =>
    have hi : i.size = 2 := by simpa [hq] using hs
    simp [Builtin.copy_, run_underlying hu, Builtin.lenOf, Builtin.firstCells, sizeOf, typeInfo, hq, hi, ← hk, hl, hst]
theorem add_lit2 (g o j : Nat) : (⟨g, o, none⟩ : Addr).add j = ⟨g, o + j, none⟩ := by unfold Addr.add; split <;> simp_all
theorem blk_shape {w : World} {g : Nat} {t : TypeId} {cs : Array Value} (h : Blk w g t cs) : w.shape? g = some (t, cs.size) := by
  unfold World.shape?
  rw [show w.heap[g]? = _ from h]
theorem dot_sizeOf (w : World) : (Go.sizeOf 35).run Tryz.prog w = .ok 2 w := by
  obtain ⟨i, hi, hz, hs, hby⟩ := info_parts dot_info
  simp [sizeOf, typeInfo, hi, hs]
set_option maxRecDepth 20000 in
set_option maxHeartbeats 4000000 in
theorem insert_shift (B n i g cap vb : Nat) (ds : List Int) (x y : Int) (w : World) (hown : w.ownsRow B 35 2 (.slice (some ⟨g, 0, none⟩) n cap) n (dotL ds)) (hV : Blk w vb 35 #[.int .i64 x, .int .i64 y]) (hvb : vb ≠ g) (hi : i < n) (hroom : n + 1 ≤ cap) (hn : n ≤ 1000000) :
    Calls Tryz.prog 35 #[.slice (some ⟨g, 0, none⟩) n cap, .int .i64 i, .slice (some ⟨vb, 0, none⟩) 1 1] w (PostI B (.slice (some ⟨g, 0, none⟩) n cap) n (ds.take (i * 2) ++ [x, y] ++ ds.drop (i * 2)) w) := by
  obtain ⟨C, a1, a2, a3, a4, a5, a6⟩ := own_blk hown
  have hsz : (Tryz.prog.info? 35).map (·.size) = some 2 := by kernel_rfl
  have hov : ∀ lb cb, (callFunc 66 #[.slice (some ⟨vb, 0, none⟩) 1 1, .slice (some ⟨g, (i + 1) * 2, none⟩) lb cb]).run Tryz.prog w = .ok (.value (.bool false)) w := fun lb cb => by
    rw [run_callFunc_extern Tryz.func66 (by kernel_rfl) (by kernel_rfl) (by kernel_rfl) (e := Extern.SlicesOverlaps.overlaps #[23, 23] #[4]) (by kernel_rfl),
      Lib.run_overlaps_apart w 23 4 35 ds_under 2 dot_sizeOf ⟨vb, 0, none⟩ ⟨g, (i + 1) * 2, none⟩ 1 1 lb cb hvb _ _ _ _ (blk_shape hV) (blk_shape a6) (by rw [List.size_toArray, List.length_append, a5]; omega) (hV.frozen 0) (hV.frozen _)]
    rfl
  have hi0 : (0 : Int) ≤ (i : Int) := by omega
  have hin : (i : Int) < (n : Int) := by omega
  have hne : ¬ (i : Int) = (n : Int) := by omega
  have hnc : (n : Int) + 1 ≤ (cap : Int) := by omega
  have hw1 : IntKind.i64.wrap ((i : Int) + 1) = (i : Int) + 1 := IntWalk.i64_in _ (by omega)
  have hw2 : IntKind.i64.wrap ((n : Int) + 1) = (n : Int) + 1 := IntWalk.i64_in _ (by unfold maxLen at a4; omega)
  have ht1 : ((i : Int) + 1).toNat = i + 1 := by omega
  have ht2 : ((n : Int) + 1).toNat = n + 1 := by omega
  have hb2 : ¬ (cap = i + 1) := by omega
  have hb4 : ¬ (cap = i) := by omega
  have hl : ds.length = n * 2 := by rwa [dotL_len] at a1
  obtain ⟨k, hk⟩ : ∃ k, k = n - i := ⟨_, rfl⟩
  have hql : (ds.drop (i * 2)).length = k * 2 := by rw [List.length_drop, hl]; omega
  have htot : (dotL ds ++ C).length = cap * 2 := by rw [List.length_append]; exact a5
  have hsome : ∀ (W : World) (cs : List Value), cs.length = cap * 2 → Blk W g 35 cs.toArray → ∀ j, j < cap * 2 → (W.cell? ⟨g, j, none⟩).isSome = true := fun W cs hcs hb j hj => by
    rw [hb.cell, Array.getElem?_eq_getElem (by simpa [hcs] using hj)]
    rfl
  have hcp1 : ∀ ty dc sc, (Builtin.copy_ #[39, 39] ty #[.slice (some ⟨g, (i + 1) * 2, none⟩) (n - i) dc, .slice (some ⟨g, i * 2, none⟩) (n + 1 - i) sc]).run Tryz.prog w.drew = .ok (goInt k) (w.drew.setCells g ((i + 1) * 2) (dotL (ds.drop (i * 2)))) := fun ty dc sc =>
    run_copy2 w.drew _ _ ty 35 g ((i + 1) * 2) (n - i) dc ⟨g, i * 2, none⟩ (n + 1 - i) sc k (dotL (ds.drop (i * 2))) dots_under hsz (by rw [dotL_len, hql]) (by simp only [Nat.min_def]; split <;> omega)
      (fun j v hj => by
        rw [add_lit2]
        have hjl : j < k * 2 := by
          rcases Nat.lt_or_ge j (k * 2) with h | h
          · exact h
          · rw [List.getElem?_eq_none (by rw [dotL_len, hql]; exact h)] at hj; cases hj
        have h1 : w.cell? ⟨g, i * 2 + j, none⟩ = (dotL ds ++ C)[i * 2 + j]? := by rw [a6.cell]; simp
        have h2 : (dotL ds ++ C)[i * 2 + j]? = (dotL ds)[i * 2 + j]? := List.getElem?_append_left (by rw [dotL_len, hl]; omega)
        have h3 : (dotL ds)[i * 2 + j]? = (dotL (ds.drop (i * 2)))[j]? := by simp [dotL]
        exact (h1.trans (h2.trans h3)).trans hj)
      (fun j hj => by rw [dotL_len, hql] at hj; exact hsome w _ htot a6 _ (by omega)) (fun j hj => a6.frozen _) (dotL_one _)
  obtain ⟨C1, C2, C', rfl⟩ : ∃ c1 c2 C', C = c1 :: c2 :: C' := by
    have : 2 ≤ C.length := by rw [dotL_len, hl] at a5; omega
    match C, this with
    | c1 :: c2 :: C', _ => exact ⟨c1, c2, C', rfl⟩
  obtain ⟨q1, q2, Q', hQ⟩ : ∃ q1 q2 Q', ds.drop (i * 2) = q1 :: q2 :: Q' := by
    have : 2 ≤ (ds.drop (i * 2)).length := by rw [hql]; omega
    match hd : ds.drop (i * 2), this with
    | q1 :: q2 :: Q', _ => exact ⟨q1, q2, Q', rfl⟩
  have hsplit : dotL ds = dotL (ds.take (i * 2)) ++ dotL (ds.drop (i * 2)) := by
    rw [← show dotL (ds.take (i * 2) ++ ds.drop (i * 2)) = dotL (ds.take (i * 2)) ++ dotL (ds.drop (i * 2)) by simp [dotL], List.take_append_drop]
  have htl : (dotL (ds.take (i * 2))).length = i * 2 := by rw [dotL_len, List.length_take, hl]; omega
  obtain ⟨W1, hW1⟩ : ∃ W1, W1 = w.drew.setCells g ((i + 1) * 2) (dotL (ds.drop (i * 2))) := ⟨_, rfl⟩
  have hB1 : Blk W1 g 35 (dotL (ds.take (i * 2)) ++ ([Value.int .i64 q1, Value.int .i64 q2] ++ (dotL (ds.drop (i * 2)) ++ C'))).toArray := by
    have h1 := blk_mid (dotL Q' ++ [C1, C2]) (dotL (ds.take (i * 2)) ++ [Value.int .i64 q1, Value.int .i64 q2]) C' w.drew (g := g) (t := 35) (by
      have : (dotL ds ++ C1 :: C2 :: C') = dotL (ds.take (i * 2)) ++ [Value.int .i64 q1, .int .i64 q2] ++ (dotL Q' ++ [C1, C2] ++ C') := by
        rw [hsplit, hQ]
        simp [dotL]
      rw [← this]
      exact a6) (dotL (ds.drop (i * 2))) (by rw [hQ]; simp [dotL])
    rw [List.length_append, htl, show i * 2 + [Value.int .i64 q1, .int .i64 q2].length = (i + 1) * 2 by simp; omega, ← hW1] at h1
    rw [List.append_assoc] at h1
    exact h1
  have hcp2 : ∀ ty dc, (Builtin.copy_ #[39, 23] ty #[.slice (some ⟨g, i * 2, none⟩) (n + 1 - i) dc, .slice (some ⟨vb, 0, none⟩) 1 1]).run Tryz.prog W1 = .ok (goInt 1) (W1.setCells g (i * 2) (dotL [x, y])) := fun ty dc =>
    run_copy2 W1 _ _ ty 35 g (i * 2) (n + 1 - i) dc ⟨vb, 0, none⟩ 1 1 1 (dotL [x, y]) dots_under hsz rfl (by simp only [Nat.min_def]; split <;> omega)
      (fun j v hj => by
        have h1 := (hV.drew.grown (grown_setCells g (dotL (ds.drop (i * 2))) ((i + 1) * 2) w.drew) (fun h => hvb (by injection h)))
        rw [← hW1] at h1
        exact World.news_of_block h1 j v hj)
      (fun j hj => hsome W1 _ (by
        have := congrArg List.length hsplit
        simp only [List.length_append, dotL_len, List.length_cons, List.length_nil, hql, hl] at htot htl this ⊢
        omega) hB1 _ (by have : j < 2 := by simpa [dotL] using hj
                         omega)) (fun j hj => hB1.frozen _) (dotL_one _)
  rw [← hW1] at hcp1
  have hB2 := blk_mid [Value.int .i64 q1, Value.int .i64 q2] (dotL (ds.take (i * 2))) (dotL (ds.drop (i * 2)) ++ C') W1 hB1 (dotL [x, y]) rfl
  rw [htl] at hB2
  have hgr1 : w.grownBy W1 (some g) := by
    rw [hW1]
    have h := grown_setCells g (dotL (ds.drop (i * 2))) ((i + 1) * 2) w.drew
    exact ⟨h.os, h.tape, h.output, h.size, h.block⟩
  have hP : PostI B (.slice (some ⟨g, 0, none⟩) n cap) n (ds.take (i * 2) ++ [x, y] ++ ds.drop (i * 2)) w (.returned (.slice (some ⟨g, 0, none⟩) (n + 1) cap)) (W1.setCells g (i * 2) (dotL [x, y])) := by
    refine ⟨_, rfl, blk_own (C := C') (by
      have e : dotL (ds.take (i * 2) ++ [x, y] ++ ds.drop (i * 2)) ++ C' = dotL (ds.take (i * 2)) ++ (dotL [x, y] ++ (dotL (ds.drop (i * 2)) ++ C')) := by simp [dotL]
      rw [e]
      exact hB2) (by
      simp only [dotL_len, List.length_append, List.length_cons, List.length_nil, hql] at htl ⊢
      omega) a2 hroom a4 (by
      simp only [dotL_len, List.length_append, List.length_cons, List.length_nil, hql, hl] at htl htot ⊢
      omega), hgr1.trans (grown_setCells g _ _ W1), .inl rfl⟩
  clear hB1 hB2 hgr1 hsome htot a6 hown hV a1 a5 hn hQ hsplit htl hl hql hW1
  generalize ds.take (i * 2) ++ [x, y] ++ ds.drop (i * 2) = es at *
  have hb1 : (0 : Int) ≤ (i : Int) + 1 := by omega
  have hin2 : i ≤ n := by omega
  have hin3 : (i : Int) ≤ (n : Int) + 1 := by omega
  replace hP := Lib.hid hP
  go_enter Tryz.func35, Tryz.ntmps35
  go_wp2_with (simp only [hov])
  go_region_law (refine step_copy_runI (v := .slice (some ⟨g, (i + 1) * 2, none⟩) (n - i) (cap - (i + 1))) (u := .slice (some ⟨g, i * 2, none⟩) (n + 1 - i) (cap - i)) rfl _ _ 39 39 rfl (by simp [Act.eval, Act.put]) (by simp [Act.eval, Act.put]) (hcp1 _ _ _) ?_)
  go_wp2_with (at_builtin; refine wpList_copy_runI (v := .slice (some ⟨g, i * 2, none⟩) (n + 1 - i) (cap - i)) (u := .slice (some ⟨vb, 0, none⟩) 1 1) _ rfl _ _ 39 23 rfl (by simp [Act.eval, Act.put]) (by simp [Act.eval, Act.put]) (hcp2 _ _) ?_)
  go_returns
  exact hP.out
end Go.Proofs.YtofgkfdfondajaaGreat
