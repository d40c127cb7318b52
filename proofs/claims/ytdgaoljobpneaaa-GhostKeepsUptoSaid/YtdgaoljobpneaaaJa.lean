/- The walks of wire's Number, Join, Bytes, of slices.Concat. -/
import Derived.Test.YtdgaoljobpneaaaVa
import Derived.IntWalk
import Derived.Deep.AppendSrc
import Derived.Lib.AppendZeros
import Derived.Laws.AppendOwn
namespace Go.Proofs.Ytdgaoljobpneaaa
open Go.RowKit
/-- byte j of a number's eight -/
def nb (n : Int) (j : Nat) : Int := n / 2 ^ (8 * (7 - j)) % 256
/-- rows of bytes as cells -/
def byV (n : Nat) (b : Nat → Int) : Array Value := ((List.range n).map fun j => Value.int .u8 (b j)).toArray
theorem byV_get (n : Nat) (b : Nat → Int) (j : Nat) (h : j < n) : (byV n b)[j]? = some (.int .u8 (b j)) := by
  simp [byV, h]
def nbI (n : Int) (k j : Nat) : Int := if 8 - k ≤ j then nb n j else 0
theorem nbI_set (n : Int) (k m : Nat) (hm : m + k = 7) : (byV 8 (nbI n k)).setIfInBounds m (.int .u8 (nb n m)) = byV 8 (nbI n (k + 1)) := by
  apply Array.ext_getElem?
  intro j
  by_cases hj : j < 8
  · rw [byV_get _ _ j hj, Array.getElem?_setIfInBounds]
    by_cases e : m = j
    · subst e
      rw [if_pos rfl, if_pos (by simp [byV]; omega)]
      unfold nbI
      rw [if_pos (by omega)]
    · rw [if_neg e, byV_get _ _ j hj]
      unfold nbI
      by_cases h : 8 - k ≤ j
      · rw [if_pos h, if_pos (by omega)]
      · rw [if_neg h, if_neg (by omega)]
  · rw [Array.getElem?_eq_none (by simp [byV]; omega), Array.getElem?_eq_none (by simp [byV]; omega)]
/-- bytes xs lie at p -/
def BytesL (w : World) (p : Option Addr) (xs : List Int) : Prop := RowAt w p xs.length (fun j => .int .u8 (xs.getD j 0))
theorem BytesL.below {w w' : World} {p : Option Addr} {xs : List Int} (h : BytesL w p xs) (hb : Below w.heap.size w w') : BytesL w' p xs := RowAt.below h hb
/-- a slice of bytes xs is answered -/
def PostL (xs : List Int) (w : World) (e : Ending) (w' : World) : Prop := ∃ p n c, e = .returned (.slice p n c) ∧ n = xs.length ∧ BytesL w' p xs ∧ Below w.heap.size w w' ∧ ∀ ad, p = some ad → w.heap.size ≤ ad.block
/-- a number's eight bytes -/
def numL (n : Int) : List Int := (List.range 8).map (nb n)
theorem numL_len (n : Int) : (numL n).length = 8 := by simp [numL]
theorem numL_get (n : Int) (j : Nat) (h : j < 8) : (numL n).getD j 0 = nb n j := by simp [numL, h]
def bL (xs : List Int) : List Value := xs.map (.int .u8 ·)
theorem bL_len (xs : List Int) : (bL xs).length = xs.length := by simp [bL]
theorem bL_app (xs ys : List Int) : bL xs ++ bL ys = bL (xs ++ ys) := by simp [bL]
theorem bL_one (xs : List Int) : ∀ u ∈ bL xs, u.oneCell' = true := fun u hu => by
  obtain ⟨j, _, rfl⟩ := List.mem_map.1 hu
  rfl
theorem u8_info : (Try.prog.info? 5).map (fun i => (i.zero, i.size, i.bytes)) = some (some (.int .u8 0), 1, 1) := by kernel_rfl
theorem bs_under : Try.prog.underlying 23 = some (.slice 5) := by kernel_rfl
theorem int_under : Try.prog.underlying 3 = some (.int .i64) := by kernel_rfl
theorem add_o (g o j : Nat) : (⟨g, o, none⟩ : Addr).add j = ⟨g, o + j, none⟩ := by unfold Addr.add; split <;> simp_all
theorem run_appB (w : World) (ty : TypeId) (base : Nat) (v : Value) (n : Nat) (ys xs : List Int) (hown : w.ownsRow base 5 1 v n (bL ys)) (p : Option Addr) (m c : Nat) (hm : m = xs.length) (hX : BytesL w p xs)
    (hb : n + m ≤ 1000000000) (hbase : base ≤ w.heap.size) :
    ∃ v' w', (Builtin.append_ #[23, 23] ty #[v, .slice p m c]).run Try.prog w = .ok v' w' ∧ w'.ownsRow base 5 1 v' (n + m) (bL (ys ++ xs)) ∧ w.grownBy w' v.ownBlock ∧ (v'.ownBlock = v.ownBlock ∨ v'.ownBlock = some w.heap.size) := by
  obtain ⟨i, hi, hz, hs, hby⟩ := info_parts u8_info
  have hone : ∀ ad : Addr, (∀ j u, (bL xs)[j]? = some u → w.cell? (ad.add j) = some u) → p = some ad → ∃ v' w', (Builtin.append_ #[23, 23] ty #[v, .slice p m c]).run Try.prog w = .ok v' w' ∧ w'.ownsRow base 5 1 v' (n + m) (bL (ys ++ xs)) ∧ w.grownBy w' v.ownBlock ∧ (v'.ownBlock = v.ownBlock ∨ v'.ownBlock = some w.heap.size) := fun ad h hp => by
    subst hp
    obtain ⟨v', w', h1, h2, h3, h4, h5⟩ := run_append_own_at (P := Try.prog) w base 23 ty 5 i (.int .u8 0) 1 1 bs_under hi hz hs hby rfl (by decide) v n (bL ys) hown ad m c (bL xs) (by rw [bL_len, hm]; omega) h (bL_one xs) (by unfold maxLen; omega) (by omega) hbase
    exact ⟨v', w', h1, by rw [← bL_app]; exact h2, h3, h5⟩
  by_cases h0 : xs = []
  · subst h0
    subst hm
    cases p with
    | some ad => exact hone ad (fun j u hu => by simp [bL] at hu) rfl
    | none =>
      rcases hown with ⟨hl, ⟨rfl, rfl⟩ | ⟨g, cap, cur, rfl, h1, h2, h3, h4, h5, h6⟩⟩
      · refine ⟨.slice none 0 0, w, ?_, ⟨by simpa using hl, .inl ⟨rfl, rfl⟩⟩, ⟨rfl, rfl, rfl, Nat.le_refl _, fun _ _ _ => rfl⟩, .inl rfl⟩
        simp [Builtin.append_, run_underlying bs_under, sizeOf, typeInfo, hi, Builtin.lenOf, Builtin.firstCells]
      · have hr := run_append_room_src (P := Try.prog) w 23 23 ty 5 i bs_under hi g 0 n cap (.slice none 0 c) 0 [] (Src.ofNil w bs_under c) (by omega) (fun j hj => absurd hj (by simp)) (fun j hj => absurd hj (by simp))
        simp only [Nat.add_zero, World.setCells] at hr
        exact ⟨_, w, hr, ⟨by simpa using hl, .inr ⟨g, cap, cur, rfl, h1, h2, h3, h4, h5, by simpa using h6⟩⟩, ⟨rfl, rfl, rfl, Nat.le_refl _, fun _ _ _ => rfl⟩, .inl rfl⟩
  · have hpos : 0 < xs.length := List.length_pos_iff.2 h0
    obtain ⟨g, o, rfl, _, hc⟩ := hX hpos
    refine hone _ (fun j u hu => ?_) rfl
    rw [add_o]
    have hj : j < xs.length := by
      rcases Nat.lt_or_ge j xs.length with h | h
      · exact h
      · rw [List.getElem?_eq_none (by rw [bL_len]; exact h)] at hu
        cases hu
    rw [hc j hj, ← hu]
    simp [bL, hj]
section
variable {ops : Array Oper} {rest : List Oper} {o : Oper} {a : Act} {w : World} {Q : Exit → Act → World → Prop}
theorem wpList_appB (hgd : o.guard = none) {s x : Operand} (ho : o.op = .call { callee := .builtin .append, args := #[s, x], argTypes := #[23, 23] }) {v : Value} (hs : a.eval s = v) {base n : Nat} {ys xs : List Int} (hown : w.ownsRow base 5 1 v n (bL ys))
    {p : Option Addr} {m c : Nat} (hx : a.eval x = .slice p m c) (hm : m = xs.length) (hX : BytesL w p xs) (hb : n + m ≤ 1000000000) (hbase : base ≤ w.heap.size)
    (h : ∀ v' w', w'.ownsRow base 5 1 v' (n + m) (bL (ys ++ xs)) → w.grownBy w' v.ownBlock → (v'.ownBlock = v.ownBlock ∨ v'.ownBlock = some w.heap.size) → wpList Try.prog ops Q rest (a.put o.dst v') w') : wpList Try.prog ops Q (o :: rest) a w :=
  wpList_plain hgd fun _ hK => by
    obtain ⟨v', w', hr, h2, h3, h4⟩ := run_appB w o.type base v n ys xs hown p m c hm hX hb hbase
    unfold Oper.wp execOp
    simp only [ho, resolve, invoke, builtin, Sem.run_bind, Sem.run_pure, Result.andThen_ok, List.map_toArray, List.map_cons, List.map_nil, hs, hx, hr]
    exact hK _ _ (h v' w' h2 h3 h4)
theorem wpList_zeros (hgd : o.guard = none) {s x : Operand} (ho : o.op = .call { callee := .builtin .append, args := #[s, x], argTypes := #[23, 3] }) (hs : a.eval s = .slice none 0 0) {N : Nat} (hx : a.eval x = .int .i64 N) (h0 : 0 < N) (hb : N ≤ 1000000000)
    (h : ∀ g C w', g = w.heap.size → w'.ownsRow g 5 1 (.slice (some ⟨g, 0, none⟩) 0 C) 0 [] → Below w.heap.size w w' → N ≤ C → wpList Try.prog ops Q rest (a.put o.dst (.slice (some ⟨g, 0, none⟩) N C)) w') : wpList Try.prog ops Q (o :: rest) a w :=
  wpList_plain hgd fun _ hK => by
    obtain ⟨i, hi, hz, hsz, hby⟩ := info_parts u8_info
    have hr := Lib.run_append_nil_zeros (P := Try.prog) w 23 3 o.type 5 i (.int .u8 0) .i64 .i64 bs_under int_under hi hz N h0 (by omega) (by omega) (by rw [hby]; omega)
    have hge := grownCap_ge w N 0 5
    unfold Oper.wp execOp
    simp only [ho, resolve, invoke, builtin, Sem.run_bind, Sem.run_pure, Result.andThen_ok, List.map_toArray, List.map_cons, List.map_nil, hs, hx, hr]
    refine hK _ _ (h _ _ _ rfl ⟨rfl, .inr ⟨_, _, _, rfl, Nat.le_refl _, heap_alloc_new w.drew _, Nat.zero_le _, grownCap_le_maxLen w _ _ _ (by unfold maxLen; omega), ?_, by simp⟩⟩ ?_ hge)
    · simp [size_zeroCells, Value.cells]
      omega
    · exact (Below.refl w.heap.size w).drew.alloc (Nat.le_refl _) _
end
set_option maxRecDepth 20000 in
set_option maxHeartbeats 2000000 in
theorem number_c (n : Int) (h0 : 0 ≤ n) (h1 : n < 4611686018427387904) (w : World) : Calls Try.prog 79 #[.int .i64 n] w (PostL (numL n) w) := by
  have hmk : ∀ w, (Instr.makeSlice 23 (.int .i64 8) (.int .i64 8)).run Try.prog w = .ok (.slice (some ⟨w.heap.size, 0, none⟩) 8 8) (w.alloc (.cells (byV 8 (nbI n 0)) 5)) := fun _ => by kernel_rfl
  have hw0 : IntKind.u64.wrap n = n := by rw [IntKind.wrap_u64, Int.emod_eq_of_lt h0 (by omega)]
  go_enter Try.func79, Try.ntmps79
  go_wp2
  clear hmk
  refine at_world (fun W0 hW => ?_)
  have hG : Blk W0 w.heap.size 5 (byV 8 (nbI n 0)) := by rw [hW]; exact Blk.new _ _ _
  have hb0 : Below w.heap.size w W0 := by rw [hW]; exact (Below.refl _ _).alloc (Nat.le_refl _) _
  clear hW
  go_loopw [8] (fun i wr => ∃ k : Nat, k ≤ 8 ∧ i = .int .i64 k ∧ Blk wr w.heap.size 5 (byV 8 (nbI n k)) ∧ Below w.heap.size w wr) (fun i _ => (8 - intOf i).toNat)
  case atStart => exact ⟨0, by omega, rfl, hG, hb0⟩
  case round =>
    clear hG hb0
    obtain ⟨k, hk, hi, hG, hb⟩ := hrel
    subst hi
    by_cases he : k = 8
    · have hk1 : (k : Int) = 8 := by omega
      rw [hk1]
      rw [he] at hG
      clear hk he hk1
      go_wp2
      go_returns
      exact ⟨_, _, _, rfl, (numL_len n).symm, fun _ => ⟨_, _, rfl, hG.lt, fun j hj => by rw [numL_len] at hj; show _ = some (Value.int .u8 ((numL n).getD j 0)); rw [Nat.zero_add, hG.cell, byV_get _ _ _ hj, numL_get _ _ hj]; unfold nbI; rw [if_pos (by omega)]⟩, hb, fun ad h => by injection h with h; rw [← h]; exact Nat.le_refl _⟩
    · have hk0 : (0 : Int) ≤ (k : Int) := by omega
      have hk1 : (k : Int) < 8 := by omega
      obtain ⟨m, hm⟩ : ∃ m, m = 7 - k := ⟨_, rfl⟩
      have hm1 : (7 : Int) - (k : Int) = (m : Int) := by omega
      have hm2 : m < 8 := by omega
      have hm3 : m + k = 7 := by omega
      have hm4 : (0 : Int) ≤ (m : Int) := by omega
      have hm5 : (m : Int) < 8 := by omega
      have cm := hG.cell m
      rw [byV_get _ _ _ hm2] at cm
      have fm := fun j => hG.frozen j
      clear hk he hm
      go_wp2
      have e7 : n / 2 ^ (8 * k) % 256 = nb n m := by unfold nb; rw [show 7 - m = k by omega]
      rw [e7]
      refine ⟨⟨k + 1, by omega, rfl, ?_, hb.setCell (p := ⟨w.heap.size, m, none⟩) (Nat.le_refl _) _⟩, by simp [intOf]; omega⟩
      have := hG.set_ m (.int .u8 (nb n m))
      rw [nbI_set n k m hm3] at this
      exact this
set_option maxRecDepth 20000 in
set_option maxHeartbeats 2000000 in
theorem grow_c (N : Nat) (hN : N ≤ 1000000000) (w : World) : Calls Try.prog 109 #[.slice none 0 0, .int .i64 N] w fun e w' => ∃ v, e = .returned v ∧ w'.ownsRow w.heap.size 5 1 v 0 [] ∧ Below w.heap.size w w' := by
  go_enter Try.func109, Try.ntmps109
  have h0 : (0 : Int) ≤ (N : Int) := by omega
  by_cases hz : N = 0
  · subst hz
    go_wp2
    go_returns
    exact ⟨_, rfl, ⟨rfl, .inl ⟨rfl, rfl⟩⟩, Below.refl _ _⟩
  · have h1 : (0 : Int) < (N : Int) := by omega
    have h2 : 0 < N := by omega
    go_wp2_with (refine wpList_zeros rfl rfl rfl rfl h2 hN ?_; intro g C w1 hg hown hb hC)
    go_returns
    subst hg
    exact ⟨_, rfl, hown, hb⟩
/-- rows of bytes lie at ⟨g, o⟩ as ps tells them -/
def PartsAt (w : World) (g o : Nat) (ps : List (List Int)) : Prop := g < w.heap.size ∧ ∀ i, i < ps.length → ∃ q n c, w.cell? ⟨g, o + i, none⟩ = some (.slice q n c) ∧ n = (ps.getD i []).length ∧ BytesL w q (ps.getD i [])
theorem PartsAt.below {w w' : World} {g o : Nat} {ps : List (List Int)} (h : PartsAt w g o ps) (hb : Below w.heap.size w w') : PartsAt w' g o ps :=
  ⟨Nat.lt_of_lt_of_le h.1 hb.size, fun i hi => by
    obtain ⟨q, n, c, h1, h2, h3⟩ := h.2 i hi
    exact ⟨q, n, c, (hb.cell (p := ⟨g, o + i, none⟩) h.1).trans h1, h2, h3.below hb⟩⟩
theorem take_flat (ps : List (List Int)) (i : Nat) (hi : i < ps.length) : (ps.take (i + 1)).flatten = (ps.take i).flatten ++ ps.getD i [] := by
  rw [List.take_succ_eq_append_getElem hi, List.flatten_append]
  simp [hi]
theorem take_le (ps : List (List Int)) (i : Nat) : (ps.take i).flatten.length ≤ ps.flatten.length := by
  conv => rhs; rw [← List.take_append_drop i ps, List.flatten_append, List.length_append]
  omega
theorem post_own {w w' : World} {v : Value} {n : Nat} {xs : List Int} (h : w'.ownsRow w.heap.size 5 1 v n (bL xs)) (hb : Below w.heap.size w w') : PostL xs w (.returned v) w' := by
  have hl : n = xs.length := by have := h.1; rw [bL_len] at this; omega
  rcases h.2 with ⟨rfl, h0⟩ | ⟨g, cap, cur, rfl, h1, h2, h3, h4, h5, h6⟩
  · exact ⟨_, _, _, rfl, by omega, fun hp => by omega, hb, fun ad h => by cases h⟩
  · refine ⟨_, _, _, rfl, hl, fun _ => ⟨g, 0, rfl, (Array.getElem?_eq_some_iff.1 h2).1, fun j hj => ?_⟩, hb, fun ad h => by injection h with h; rw [← h]; exact h1⟩
    rw [Nat.zero_add, h.cellAt j (by omega)]
    simp [bL, hj]
theorem own_mono {w : World} {base base' : Nat} {e : TypeId} {size : Nat} {v : Value} {n : Nat} {xs : List Value} (h : w.ownsRow base e size v n xs) (hb : base' ≤ base) : w.ownsRow base' e size v n xs := by
  refine ⟨h.1, ?_⟩
  rcases h.2 with hn | ⟨g, cap, cur, rfl, hg, rest⟩
  · exact .inl hn
  · exact .inr ⟨g, cap, cur, rfl, Nat.le_trans hb hg, rest⟩
/-- a row of bytes of one's own is answered -/
def PostO (xs : List Int) (w : World) (e : Ending) (w' : World) : Prop := ∃ v n, e = .returned v ∧ w'.ownsRow w.heap.size 5 1 v n (bL xs) ∧ Below w.heap.size w w'
theorem PostO.l {xs : List Int} {w w' : World} {e : Ending} (h : PostO xs w e w') : PostL xs w e w' := by
  obtain ⟨v, n, rfl, h1, h2⟩ := h
  exact post_own h1 h2
theorem ownB_nil {w : World} {base : Nat} : w.ownsRow base 5 1 (.slice none 0 0) 0 (bL []) := ⟨rfl, .inl ⟨rfl, rfl⟩⟩
set_option maxRecDepth 20000 in
set_option maxHeartbeats 4000000 in
theorem concat_o (g o K cc : Nat) (ps : List (List Int)) (hK : K = ps.length) (hT : ps.flatten.length ≤ 100000000) (hK2 : K ≤ 1000000) (w : World) (hP : PartsAt w g o ps) : Calls Try.prog 100 #[.slice (some ⟨g, o, none⟩) K cc] w (PostO ps.flatten w) := by
  have hlast : ps.take K = ps := by rw [hK]; exact List.take_length
  have hstep := take_flat ps
  have hle := take_le ps
  obtain ⟨hg, hP⟩ := hP
  obtain ⟨T, hTe⟩ : ∃ T : Nat → List Int, T = fun i => (ps.take i).flatten := ⟨_, rfl⟩
  have hT0 : T 0 = [] := by rw [hTe]; rfl
  have hTK : T K = ps.flatten := by rw [hTe]; show (ps.take K).flatten = _; rw [hlast]
  have hTs : ∀ i, i < K → T (i + 1) = T i ++ ps.getD i [] := fun i hi => by rw [hTe]; exact hstep i (by omega)
  have hTl : ∀ i, (T i).length ≤ 100000000 := fun i => by rw [hTe]; exact Nat.le_trans (hle i) hT
  rw [← hTK]
  obtain ⟨L, hL⟩ : ∃ L : Nat → List Int, L = fun i => ps.getD i [] := ⟨_, rfl⟩
  replace hTs : ∀ i, i < K → T (i + 1) = T i ++ L i := by rw [hL]; exact hTs
  replace hP : ∀ i, i < K → ∃ q n c, w.cell? ⟨g, o + i, none⟩ = some (.slice q n c) ∧ n = (L i).length ∧ BytesL w q (L i) := by rw [hL, hK]; exact hP
  clear hTe hL hlast hstep hle hTK hT hK
  replace hT0 := Lib.hid hT0
  replace hTs := Lib.hid hTs
  replace hTl := Lib.hid hTl
  replace hP := Lib.hid hP
  go_enter Try.func100, Try.ntmps100
  go_wp2
  go_loopw [3, 11] (fun s i wr => ∃ m : Nat, m ≤ K ∧ i = .int .i64 m ∧ s = .int .i64 ((T m).length : Nat) ∧ w = wr) (fun _ i _ => (K - intOf i).toNat)
  case atStart => exact ⟨0, by omega, rfl, by rw [hT0.out]; rfl, rfl⟩
  case round =>
    obtain ⟨m, hm, hi, hs, rfl⟩ := hrel
    subst hi hs
    by_cases he : m = K
    · subst he
      obtain ⟨N, hN⟩ : ∃ N, N = (T m).length := ⟨_, rfl⟩
      have hN2 : N ≤ 1000000000 := by have := hTl.out m; omega
      rw [← hN]
      clear hm hN
      go_wp2_with fail
      refine (grow_c N hN2 _).mono ?_
      rintro e w1 ⟨v, rfl, hown, hb⟩
      clear hN2
      replace hown := Lib.hid hown
      go_wp2
      go_loopw [6, 27] (fun v i wr => ∃ k : Nat, k ≤ m ∧ i = .int .i64 k ∧ wr.ownsRow w.heap.size 5 1 v (T k).length (bL (T k)) ∧ Below w.heap.size w wr) (fun _ i _ => (m - intOf i).toNat)
      case atStart => exact ⟨0, by omega, rfl, by rw [hT0.out]; exact hown.out, hb⟩
      case round =>
        clear hown hb
        obtain ⟨k, hk, hi, hown, hb⟩ := hrel
        subst hi
        by_cases he : k = m
        · subst he
          have hpo := Lib.hid (show PostO (T k) w (.returned u6) wr from ⟨_, _, rfl, hown, hb⟩)
          clear hown hk
          go_wp2
          go_returns
          exact hpo.out
        · have hk0 : (0 : Int) ≤ (k : Int) := by omega
          have hk1 : (k : Int) < (m : Int) := by omega
          have hk2 : k < m := by omega
          obtain ⟨q, n, c, hc, hn, hB⟩ := hP.out k hk2
          have hnx := hTs.out k hk2
          have hl1 := hTl.out (k + 1)
          rw [hnx, List.length_append, ← hn] at hl1
          have hc1 := (hb.cell (p := ⟨g, o + k, none⟩) hg).trans hc
          have hB1 := hB.below hb
          have hbs := hb.size
          have hlen : (T (k + 1)).length = (T k).length + n := by rw [hnx, List.length_append, ← hn]
          clear hB hk he hc
          replace hown := Lib.hid hown
          replace hB1 := Lib.hid hB1
          replace hlen := Lib.hid hlen
          replace hnx := Lib.hid hnx
          replace hn := Lib.hid hn
          have hl3 : (T k).length + n ≤ 1000000000 := by omega
          go_wp2_with (refine wpList_appB rfl rfl rfl hown.out rfl hn.out hB1.out hl3 hbs ?_; intro v' w2 hown2 hgr hat; have hb2 := hb.grown hgr hbs (fun g h => (hown.out.lt g h).1); replace hown2 := Lib.hid hown2; clear hgr hat)
          refine ⟨⟨k + 1, by omega, rfl, ?_, hb2⟩, by simp [intOf]; omega⟩
          rw [hnx.out, List.length_append, ← hn.out]
          exact hown2.out
    · have hm0 : (0 : Int) ≤ (m : Int) := by omega
      have hm1 : (m : Int) < (K : Int) := by omega
      have hm2 : m < K := by omega
      obtain ⟨q, n, c, hc, hn, hB⟩ := hP.out m hm2
      have hnx := hTs.out m hm2
      have hl1 := hTl.out (m + 1)
      rw [hnx, List.length_append, ← hn] at hl1
      have hl2 : ((T (m + 1)).length : Int) = ((T m).length : Int) + (n : Int) := by rw [hnx, List.length_append, ← hn]; omega
      clear hB hn hm he hnx
      generalize (T m).length = X at *
      have hw : IntKind.i64.wrap ((X : Int) + (n : Int)) = (X : Int) + (n : Int) := IntWalk.i64_in _ (by omega)
      have hx0 : ¬ (X : Int) + (n : Int) < 0 := by omega
      replace hl2 := Lib.hid hl2
      go_wp2
      exact ⟨⟨m + 1, by omega, rfl, by rw [hl2.out], by trivial⟩, by simp [intOf]; omega⟩
end Go.Proofs.Ytdgaoljobpneaaa
