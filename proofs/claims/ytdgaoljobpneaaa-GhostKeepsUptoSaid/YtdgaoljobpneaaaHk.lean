/- The walk of a ghost's book's all. -/
import Derived.Test.YtdgaoljobpneaaaHj
namespace Go.Proofs.Ytdgaoljobpneaaa
open Go.RowKit
/-- a row of one's own of things of one's own, apart -/
def AllO {α : Type} (O : Nat → World → Value → α → List Nat → Prop) (ty : TypeId) (k B : Nat) (w : World) (v : Value) (L : List α) : Prop := ∃ vs bls, w.ownsRow B ty k v L.length (vs.flatMap cellsV) ∧ RowsO O B w vs L bls ∧ (bls.flatten ++ obv v).Nodup
section
variable {α : Type} {O : Nat → World → Value → α → List Nat → Prop} {ty : TypeId} {k B : Nat} {w w1 w2 : World} {v v' v48 : Value} {L : List α}
theorem rows_range (hr : ∀ w v r bl, O B w v r bl → ∀ g, g ∈ bl → B ≤ g ∧ g < w.heap.size) {vs : List Value} {bls : List (List Nat)} (h : RowsO O B w vs L bls) : ∀ g, g ∈ bls.flatten → B ≤ g ∧ g < w.heap.size := fun g hg => by
  obtain ⟨bl, hbl2, hg2⟩ := List.mem_flatten.1 hg
  obtain ⟨i, hi⟩ := List.mem_iff_getElem?.1 hbl2
  have hil : i < L.length := by rw [← h.2.1]; exact (List.getElem?_eq_some_iff.1 hi).1
  have hiv : i < vs.length := by rw [h.1]; exact hil
  exact hr w _ _ _ (h.2.2 i _ _ bl (List.getElem?_eq_getElem hiv) (List.getElem?_eq_getElem hil) hi) g hg2
theorem rows_ext (hO : ∀ w w' v r bl S S', O B w v r bl → Ext S w S' w' → (∀ g, g ∈ bl → g ∉ S) → O B w' v r bl) {vs : List Value} {bls : List (List Nat)} {S S' : List Nat} (h : RowsO O B w vs L bls) (hb : Ext S w S' w1) (hS : ∀ g, g ∈ bls.flatten → g ∉ S) : RowsO O B w1 vs L bls :=
  ⟨h.1, h.2.1, fun i v r bl e1 e2 e3 => hO w w1 v r bl S S' (h.2.2 i v r bl e1 e2 e3) hb (fun g hg => hS g (List.mem_flatten.2 ⟨bl, List.mem_of_getElem? e3, hg⟩))⟩
theorem AllO.below (hO : ∀ w w' v r bl S S', O B w v r bl → Ext S w S' w' → (∀ g, g ∈ bl → g ∉ S) → O B w' v r bl) (h : AllO O ty k B w v L) (hb : Below w.heap.size w w1) : AllO O ty k B w1 v L := by
  obtain ⟨vs, bls, h1, h2, h3⟩ := h
  exact ⟨vs, bls, below_kept h1 hb, rows_ext hO h2 (.below (S := []) hb) (fun _ _ h => by cases h), h3⟩
theorem all_snoc (hO : ∀ w w' v r bl S S', O B w v r bl → Ext S w S' w' → (∀ g, g ∈ bl → g ∉ S) → O B w' v r bl) (hr : ∀ w v r bl, O B w v r bl → ∀ g, g ∈ bl → B ≤ g ∧ g < w.heap.size) {vs : List Value} {bls : List (List Nat)} {bl : List Nat} {r : α} {n : Nat} {xs : List Value}
    (a1 : w.ownsRow B ty k v n xs) (a2 : RowsO O B w vs L bls) (a3 : (bls.flatten ++ obv v).Nodup) (hb : Below w.heap.size w w1) (ro : O B w1 v48 r bl) (nd : bl.Nodup) (hB0 : ∀ g, g ∈ bl → w.heap.size ≤ g) (ho2 : w2.ownsRow B ty k v' (L.length + 1) (vs.flatMap cellsV ++ cellsV v48)) (hg : w1.grownBy w2 v.ownBlock) (hl : v'.ownBlock = v.ownBlock ∨ v'.ownBlock = some w1.heap.size) : AllO O ty k B w2 v' (L ++ [r]) := by
  have hl1 : vs.length = L.length := a2.1
  have hl2 : bls.length = L.length := a2.2.1
  have hob : ∀ g, g ∈ obv v → g < w.heap.size := fun g hg => (a1.lt g (mem_obv.1 hg)).2
  have hrg := rows_range hr a2
  have hnb : ∀ g, g ∈ bls.flatten → g ∉ obv v := fun g h1 h2 => (List.nodup_append.1 a3).2.2 g h1 g h2 rfl
  have hK : Kept (obv v) w w2 := (Kept.below hb _).trans (Kept.grown hg (fun g h => mem_obv.2 h))
  have hK1 : Kept (obv v) w1 w2 := Kept.grown hg (fun g h => mem_obv.2 h)
  have hs1 := hb.size
  have r2 := rows_ext (S := obv v) (S' := obv v) hO a2 (hK.ext (fun _ h => .inl h) (fun _ h => .inl h)) hnb
  have n2 : O B w2 v48 r bl := hO w1 w2 v48 r bl (obv v) (obv v) ro (hK1.ext (fun _ h => .inl h) (fun _ h => .inl h)) (fun g h1 h2 => by have := hob g h2; have := hB0 g h1; omega)
  refine ⟨vs ++ [v48], bls ++ [bl], by simpa using ho2, ⟨by simp [hl1], by simp [hl2], fun i u r' bl' e1 e2 e3 => ?_⟩, ?_⟩
  · rcases Nat.lt_or_ge i L.length with h | h
    · rw [List.getElem?_append_left (by omega)] at e1 e2 e3
      exact r2.2.2 i u r' bl' e1 e2 e3
    · have hi : i = L.length := by
        have := (List.getElem?_eq_some_iff.1 e2).1
        simp at this
        omega
      subst hi
      rw [List.getElem?_append_right (by omega)] at e1 e2 e3
      simp only [hl1, hl2, Nat.sub_self, List.getElem?_cons_zero, Option.some.injEq] at e1 e2 e3
      subst e1 e2 e3
      exact n2
  · have hbr := fun g hg => (hr w1 v48 r bl ro g hg).2
    rw [List.flatten_append, List.flatten_cons, List.flatten_nil, List.append_nil, List.nodup_append, List.nodup_append]
    refine ⟨⟨(List.nodup_append.1 a3).1, nd, fun x hx y hy e => ?_⟩, ?_, fun x hx y hy e => ?_⟩
    · subst e
      have h1 := (hrg x hx).2
      have h2 := hB0 x hy
      omega
    · unfold obv
      split <;> simp
    · subst e
      have hy2 := mem_obv.1 hy
      rcases hl with h | h
      · rw [h] at hy2
        rcases List.mem_append.1 hx with h1 | h1
        · exact hnb x h1 (mem_obv.2 hy2)
        · have := hob x (mem_obv.2 hy2)
          have := hB0 x h1
          omega
      · rw [h] at hy2
        injection hy2 with hy2
        rcases List.mem_append.1 hx with h1 | h1
        · have := (hrg x h1).2
          omega
        · have := hbr x h1
          omega
theorem all_nil : AllO O ty k B w (.slice none 0 0) [] := ⟨[], [], ⟨by simp, .inl ⟨rfl, rfl⟩⟩, ⟨rfl, rfl, fun i v r bl h => by simp at h⟩, by simp [obv, Value.ownBlock]⟩
theorem flat_get (k : Nat) : ∀ (vs : List Value) (i : Nat) (v : Value), (∀ u, u ∈ vs → (cellsV u).length = k) → vs[i]? = some v → ∀ j, j < k → (vs.flatMap cellsV)[i * k + j]? = (cellsV v)[j]?
  | [], i, v, _, h, j, _ => by simp at h
  | x :: vs, 0, v, hk, h, j, hj => by
    obtain rfl : x = v := by simpa using h
    have := hk x (List.mem_cons_self ..)
    rw [List.flatMap_cons, Nat.zero_mul, Nat.zero_add, List.getElem?_append_left (by omega)]
  | x :: vs, i + 1, v, hk, h, j, hj => by
    have h2 := hk x (List.mem_cons_self ..)
    have h3 : (i + 1) * k = i * k + k := Nat.succ_mul i k
    rw [List.flatMap_cons, List.getElem?_append_right (by omega), show (i + 1) * k + j - (cellsV x).length = i * k + j by omega]
    exact flat_get k vs i v (fun u hu => hk u (List.mem_cons_of_mem _ hu)) (by simpa using h) j hj
end
theorem rec_rg (B : Nat) : ∀ w v r bl, RecO B w v r bl → ∀ g, g ∈ bl → B ≤ g ∧ g < w.heap.size := fun _ _ _ _ h => h.range
theorem root_rg (B : Nat) : ∀ w v r bl, RootO B w v r bl → ∀ g, g ∈ bl → B ≤ g ∧ g < w.heap.size := fun _ _ _ _ h => h.range
def OwnW {α : Type} (O : Nat → World → Value → α → List Nat → Prop) (B0 : Nat) (r : α) : Value → World → Prop := fun v w => ∃ bl, O B0 w v r bl ∧ bl.Nodup
theorem sta_ownWR (B0 : Nat) (r : RecD) : Sta (OwnW RecO B0 r) := fun _ _ _ ⟨bl, h, hn⟩ hb => ⟨bl, h.ext (S := []) (S' := []) (.below hb) (fun _ _ h => by cases h), hn⟩
theorem sta_ownWT (B0 : Nat) (r : RootD) : Sta (OwnW RootO B0 r) := fun _ _ _ ⟨bl, h, hn⟩ hb => ⟨bl, h.ext (S := []) (S' := []) (.below hb) (fun _ _ h => by cases h), hn⟩
def SlW {α : Type} (O : Nat → World → Value → α → List Nat → Prop) (t : TypeId) (B0 : Nat) (r : α) : Value → World → Prop := fun x w => ∃ g v bl, x = .slice (some ⟨g, 0, none⟩) 1 1 ∧ Blk w g t (cellsV v).toArray ∧ O B0 w v r bl ∧ bl.Nodup
theorem sta_slWR (t : TypeId) (B0 : Nat) (r : RecD) : Sta (SlW RecO t B0 r) := fun _ _ _ ⟨g, v, bl, h1, h3, h4, h5⟩ hb => ⟨g, v, bl, h1, h3.below hb, h4.ext (S := []) (S' := []) (.below hb) (fun _ _ h => by cases h), h5⟩
theorem sta_slWT (t : TypeId) (B0 : Nat) (r : RootD) : Sta (SlW RootO t B0 r) := fun _ _ _ ⟨g, v, bl, h1, h3, h4, h5⟩ hb => ⟨g, v, bl, h1, h3.below hb, h4.ext (S := []) (S' := []) (.below hb) (fun _ _ h => by cases h), h5⟩
def alRecL (r : RecD) (p1 : Option Addr) (c1 : Nat) (p2 : Option Addr) (c2 : Nat) (p3 : Option Addr) (c3 : Nat) (gb B0 : Nat) (ov : Value) : List (Value → World → Prop) := [
  Eq1 (ov),
  Eq1 (.pointer (some ⟨gb, 0, none⟩)),
  Eq1 (.pointer (some ⟨gb, 0, none⟩)),
  Eq1 (.pointer (some ⟨gb, 3, none⟩)),
  Eq1 (.func (.func 42) #[] #[]),
  Eq1 (.agg #[.string r.k, .int .i64 r.cl, .int .i64 r.sq, .slice p1 r.n c1, .bool r.gone, .slice p2 r.vs.length c2, .slice p3 r.ss.length c3]),
  OwnW RecO B0 r,
  SlW RecO 25 B0 r]
theorem alRecS (r : RecD) (p1 : Option Addr) (c1 : Nat) (p2 : Option Addr) (c2 : Nat) (p3 : Option Addr) (c3 : Nat) (gb B0 : Nat) (ov : Value) : ∀ j x' q q', (alRecL r p1 c1 p2 c2 p3 c3 gb B0 ov).getD j (fun _ _ => True) x' q → Below q.heap.size q q' → (alRecL r p1 c1 p2 c2 p3 c3 gb B0 ov).getD j (fun _ _ => True) x' q' := by
  refine sta_all _ ?_
  simp only [alRecL, List.mem_cons, forall_eq_or_imp, List.not_mem_nil, false_implies, implies_true, and_true]
  exact ⟨sta_eq _, sta_eq _, sta_eq _, sta_eq _, sta_eq _, sta_eq _, sta_ownWR _ _, sta_slWR _ _ _⟩
set_option maxRecDepth 20000 in
set_option maxHeartbeats 16000000 in
theorem allRec_c (B gb : Nat) (S : List Nat) (L : List RecD) (M : List RootD) (hlen : L.length ≤ 100000) (w : World) (hGS : GS B w S gb L M) :
    Calls Try.prog 35 #[.pointer (some ⟨gb, 0, none⟩)] w fun e w' => ∃ v, e = .returned v ∧ AllO RecO 25 7 w.heap.size w' v L ∧ Below w.heap.size w w' := by
  obtain ⟨l1, m1, l2, m2, g1, -, -, -, g5, g6⟩ := hGS
  obtain ⟨vs, bls, D, a1, a2, -, -, -, -, -, a8⟩ := g5
  clear g6
  obtain ⟨lq, cc, rfl⟩ := own_sl a1
  have hrow : 0 < L.length → ∃ gl, lq = some ⟨gl, 0, none⟩ ∧ gl < w.heap.size := fun h => by
    rcases a1.2 with ⟨e, e2⟩ | ⟨g, cap, cur, e, h1, h2, _⟩
    · omega
    · injection e with e
      exact ⟨g, e, (Array.getElem?_eq_some_iff.1 h2).1⟩
  have hcell : ∀ gl, lq = some ⟨gl, 0, none⟩ → ∀ (i : Nat) (r : RecD) (v : Value), L[i]? = some r → vs[i]? = some v → ∀ j, j < 7 → w.cell? ⟨gl, i * 7 + j, none⟩ = (cellsV v)[j]? := fun gl e i r v hr hv j hj => by
    subst e
    have hi := (List.getElem?_eq_some_iff.1 hr).1
    have h1 : (i + 1) * 7 ≤ L.length * 7 := Nat.mul_le_mul_right _ hi
    have h3 : (i + 1) * 7 = i * 7 + 7 := Nat.succ_mul i 7
    rw [a1.cellAt (i * 7 + j) (by omega)]
    refine flat_get 7 vs i v (fun u hu => ?_) hv j hj
    obtain ⟨i2, hi2⟩ := List.mem_iff_getElem?.1 hu
    have hl2 : i2 < L.length := by rw [← a2.1]; exact (List.getElem?_eq_some_iff.1 hi2).1
    exact (rec_cells (a2.2.2 i2 u _ _ hi2 (List.getElem?_eq_getElem hl2) (List.getElem?_eq_getElem (by rw [a2.2.1]; exact hl2)))).1
  obtain ⟨N, hN⟩ : ∃ N, N = L.length := ⟨_, rfl⟩
  have hNb : N ≤ 100000 := by omega
  rw [← hN] at hrow g1
  have hlast : L.take N = L := by rw [hN]; exact List.take_length
  have hrec : ∀ kk, kk < N → ∃ r v bl, L[kk]? = some r ∧ vs[kk]? = some v ∧ RecO B w v r bl ∧ r.ok := fun kk hk => by
    have h1 : kk < L.length := by omega
    have h2 : kk < vs.length := by rw [a2.1]; exact h1
    have h3 : kk < bls.length := by rw [a2.2.1]; exact h1
    exact ⟨_, _, _, List.getElem?_eq_getElem h1, List.getElem?_eq_getElem h2, a2.2.2 kk _ _ _ (List.getElem?_eq_getElem h2) (List.getElem?_eq_getElem h1) (List.getElem?_eq_getElem h3), (a8 _ (List.getElem_mem h1)).1⟩
  have hsn : ∀ kk r, L[kk]? = some r → L.take (kk + 1) = L.take kk ++ [r] := fun kk r h => by
    have hi := (List.getElem?_eq_some_iff.1 h).1
    have := List.getElem?_eq_getElem hi
    rw [this] at h
    rw [List.take_succ_eq_append_getElem hi, Option.some.inj h]
  obtain ⟨P, hP⟩ : ∃ P : Nat → List RecD, P = fun i => L.take i := ⟨_, rfl⟩
  have hP0 : P 0 = [] := by rw [hP]; rfl
  have hPn : P N = L := by rw [hP]; exact hlast
  have hPs : ∀ kk r, L[kk]? = some r → P (kk + 1) = P kk ++ [r] := by rw [hP]; exact hsn
  have hPl : ∀ kk, kk ≤ N → (P kk).length = kk := fun kk hk => by rw [hP]; simp; omega
  rw [← hPn]
  clear hP hlast hsn hPn a1 a2 a8
  replace hrow := Lib.hid hrow
  replace hcell := Lib.hid hcell
  replace hrec := Lib.hid hrec
  replace hP0 := Lib.hid hP0
  replace hPs := Lib.hid hPs
  replace hPl := Lib.hid hPl
  replace hN := Lib.hid hN
  unfold ghC at g1
  obtain ⟨x0, x1, x2, x3, x4, x5, x6, x7⟩ := blk8 g1
  go_enter Try.func35, Try.ntmps35
  go_wp2
  clear x0 x1 x2 x3 x4 x5 x6 x7
  go_loopw [3, 11] (fun ov i wr => ∃ kk : Nat, kk ≤ N ∧ i = .int .i64 kk ∧ AllO RecO 25 7 w.heap.size wr ov (P kk) ∧ Below w.heap.size w wr) (fun _ i _ => (N - intOf i).toNat)
  case atStart => exact ⟨0, by omega, rfl, by rw [hP0.out]; exact all_nil, Below.refl _ _⟩
  case round =>
    obtain ⟨kk, hk, hi, hA, hb0⟩ := hrel
    subst hi
    by_cases he : kk = N
    · subst he
      have hpo := Lib.hid (show ∃ v, Ending.returned u3 = .returned v ∧ AllO RecO 25 7 w.heap.size wr v (P kk) ∧ Below w.heap.size w wr from ⟨u3, rfl, hA, hb0⟩)
      clear hA hk hb0
      go_wp2
      go_returns
      exact hpo.out
    · have hk0 : (0 : Int) ≤ (kk : Int) := by omega
      have hk1 : (kk : Int) < (N : Int) := by omega
      have hk2 : kk < N := by omega
      obtain ⟨r, vv, blr, hr, hv, hO, hrok⟩ := hrec.out kk hk2
      obtain ⟨gl, rfl, hgl⟩ := hrow.out (by omega)
      have hcc := hcell.out gl rfl kk r vv hr hv
      have hF := hO.f (S := []) (fun _ _ h => by cases h)
      obtain ⟨p1, c1, p2, c2, p3, c3, rfl, h1, h2, h3⟩ := hF
      have y0 : wr.cell? ⟨gl, kk * 7, none⟩ = some (.string r.k) := (hb0.cell (p := ⟨gl, kk * 7, none⟩) hgl).trans (hcc 0 (by decide))
      have y1 : wr.cell? ⟨gl, kk * 7 + 1, none⟩ = some (.int .i64 r.cl) := (hb0.cell (p := ⟨gl, kk * 7 + 1, none⟩) hgl).trans (hcc 1 (by decide))
      have y2 : wr.cell? ⟨gl, kk * 7 + 2, none⟩ = some (.int .i64 r.sq) := (hb0.cell (p := ⟨gl, kk * 7 + 2, none⟩) hgl).trans (hcc 2 (by decide))
      have y3 : wr.cell? ⟨gl, kk * 7 + 3, none⟩ = some (.slice p1 r.n c1) := (hb0.cell (p := ⟨gl, kk * 7 + 3, none⟩) hgl).trans (hcc 3 (by decide))
      have y4 : wr.cell? ⟨gl, kk * 7 + 4, none⟩ = some (.bool r.gone) := (hb0.cell (p := ⟨gl, kk * 7 + 4, none⟩) hgl).trans (hcc 4 (by decide))
      have y5 : wr.cell? ⟨gl, kk * 7 + 5, none⟩ = some (.slice p2 r.vs.length c2) := (hb0.cell (p := ⟨gl, kk * 7 + 5, none⟩) hgl).trans (hcc 5 (by decide))
      have y6 : wr.cell? ⟨gl, kk * 7 + 6, none⟩ = some (.slice p3 r.ss.length c3) := (hb0.cell (p := ⟨gl, kk * 7 + 6, none⟩) hgl).trans (hcc 6 (by decide))
      have hnx := hPs.out kk r hr
      have hPk := hPl.out kk hk
      have hco0 := fun w1 (hb : Below w.heap.size w w1) => ownRecord_c r p1 c1 p2 c2 p3 c3 hrok w1 (h1.d.below hb) (h2.b.below hb) (h3.b.below hb)
      unfold recV at hco0
      obtain ⟨vs2, bls2, b1, b2, b3⟩ := hA
      rw [hPk] at b1
      replace b1 := Lib.hid b1
      replace b2 := Lib.hid b2
      replace b3 := Lib.hid b3
      replace hco0 := Lib.hid hco0
      replace hnx := Lib.hid hnx
      replace hPk := Lib.hid hPk
      clear he hcc hr hv hrok hk2 hO h1 h2 h3
      go_wp2
      refine at_world (fun W1 hW => ?_)
      have hbW : Below wr.heap.size wr W1 := by rw [hW]; go_grown
      have hX : Blk W1 wr.heap.size 25 #[.string r.k, .int .i64 r.cl, .int .i64 r.sq, .slice p1 r.n c1, .bool r.gone, .slice p2 r.vs.length c2, .slice p3 r.ss.length c3] := by rw [hW]; exact Blk.new _ _ _
      clear hW y0 y1 y2 y3 y4 y5 y6
      have hb1 := hb0.trans (hbW.mono hb0.size)
      have hG := g1.below hb1
      have hco := Lib.hid fun w1 (hb : Below W1.heap.size W1 w1) => hco0.out w1 (hb1.trans (hb.mono hb1.size))
      clear hco0
      obtain ⟨XB, hXB⟩ : ∃ XB, XB = wr.heap.size := ⟨_, rfl⟩
      rw [← hXB] at hX ⊢
      clear hXB
      obtain ⟨B0, hB0e⟩ : ∃ B0, B0 = W1.heap.size := ⟨_, rfl⟩
      have hB0 := Nat.le_of_eq hB0e
      replace hB0e := Lib.hid hB0e
      obtain ⟨ov, hov⟩ : ∃ ov, ov = u3 := ⟨_, rfl⟩
      rw [← hov] at b1 b3 ⊢
      clear hov
      refine wp_region_grow5 8 (fun k => (Nat.ble 15 k && Nat.ble k 22)) _ [] (fun a b => Below a.heap.size a b) (Below.refl _ _).drew below_tr (fun j x' q => (alRecL r p1 c1 p2 c2 p3 c3 gb B0 ov).getD j (fun _ _ => True) x' q) (fun _ => false) (fun f => #[.pointer (some ⟨gb, 0, none⟩), _, _, ov, _, .pointer (some ⟨XB, 0, none⟩), _, _, _, _, _, _, _, _, _, f 15, f 16, f 17, f 18, f 19, f 20, f 21, f 22, _, _, _]) (fun f => rfl) (by kernel_rfl) (by kernel_rfl) (by kernel_rfl) (by kernel_rfl) (by kernel_rfl) (alRecS _ _ _ _ _ _ _ _ _ _) (fun _ _ _ h => by cases h) ?_ ?_
      · refine steps5_cons ?_ ?_
        · intro f w1 hb hd Q hK
          clear hd
          have hK := Lib.hid hK
          go_wp2
          exact hK.out _ _ rfl (Below.refl _ _) (fun h => by cases h)
        refine steps5_cons ?_ ?_
        · intro f w1 hb hd Q hK
          clear hd
          have hK := Lib.hid hK
          go_wp2
          exact hK.out _ _ rfl (Below.refl _ _) (fun h => by cases h)
        refine steps5_cons ?_ ?_
        · intro f w1 hb hd Q hK
          have e16 : f 16 = .pointer (some ⟨gb, 0, none⟩) := hd.1 rfl
          clear hd
          simp only [e16] at hK
          have hK := Lib.hid hK
          go_wp2
          exact hK.out _ _ rfl (Below.refl _ _) (fun h => by cases h)
        refine steps5_cons ?_ ?_
        · intro f w1 hb hd Q hK
          have e17 : f 17 = .pointer (some ⟨gb, 0, none⟩) := hd.1 rfl
          clear hd
          simp only [e17] at hK
          have hK := Lib.hid hK
          go_wp2
          exact hK.out _ _ rfl (Below.refl _ _) (fun h => by cases h)
        refine steps5_cons ?_ ?_
        · intro f w1 hb hd Q hK
          have e18 : f 18 = .pointer (some ⟨gb, 3, none⟩) := hd.1 rfl
          clear hd
          simp only [e18] at hK
          have hK := Lib.hid hK
          have c0 := (hG.below hb).cell 3
          simp only [List.getElem?_toArray, List.getElem?_cons_zero, List.getElem?_cons_succ] at c0
          go_wp2
          exact hK.out _ _ rfl (Below.refl _ _) (fun h => by cases h)
        refine steps5_cons ?_ ?_
        · intro f w1 hb hd Q hK
          clear hd
          have hK := Lib.hid hK
          obtain ⟨c0, c1, c2, c3, c4, c5, c6⟩ := blk7 (hX.below hb)
          go_wp2
          exact hK.out _ _ rfl (Below.refl _ _) (fun h => by cases h)
        refine steps5_cons ?_ ?_
        · intro f w1 hb hd Q hK
          have e19 : f 19 = .func (.func 42) #[] #[] := hd.1 rfl
          have e20 : f 20 = .agg #[.string r.k, .int .i64 r.cl, .int .i64 r.sq, .slice p1 r.n c1, .bool r.gone, .slice p2 r.vs.length c2, .slice p3 r.ss.length c3] := hd.2.1 rfl
          clear hd
          simp only [e19, e20] at hK
          have hK := Lib.hid hK
          go_wp2_with fail
          refine (hco.out _ hb).mono ?_
          rintro e w2 ⟨v2, bl2, rfl, ho2, nd2, hb2⟩
          replace ho2 := Lib.hid ho2
          replace nd2 := Lib.hid nd2
          go_wp2
          exact hK.out _ _ ⟨_, ho2.out.mono (Nat.le_trans hB0 hb.size), nd2.out⟩ hb2 (fun h => by cases h)
        refine steps5_cons ?_ ?_
        · intro f w1 hb hd Q hK
          obtain ⟨bl21, ⟨pp1, cc1, pp2, cc2, pp3, cc3, e21, o1, o2, o3, hbl⟩, nd⟩ := (hd.1 rfl : OwnW RecO B0 r (f 21) w1)
          unfold recV at e21
          have hro := Lib.hid (show RecO B0 w1 (recV r pp1 cc1 pp2 cc2 pp3 cc3) r bl21 from ⟨_, _, _, _, _, _, rfl, o1, o2, o3, hbl⟩)
          replace nd := Lib.hid nd
          clear o1 o2 o3 hbl
          clear hd
          simp only [e21] at hK
          have hK := Lib.hid hK
          go_wp2
          exact hK.out _ _ ⟨_, _, _, rfl, Blk.new _ _ _, hro.out.ext (S := []) (S' := []) (.below ((Below.refl _ _).alloc (Nat.le_refl _) _)) (fun _ _ h => by cases h), nd.out⟩ ((Below.refl _ _).alloc (Nat.le_refl _) _) (fun h => by cases h)
        trivial
      · intro f w1 hb hf hne
        have d15 : f 15 = ov := hf 0 _ _ (by decide) rfl rfl
        obtain ⟨g22, v22, bl22, e22, bk22, ro22, nd22⟩ : SlW RecO 25 B0 r (f 22) w1 := hf 7 _ _ (by decide) rfl rfl
        simp only [d15, e22]
        clear hf hne d15 e22 hco
        have hbq := hbW.trans (hb.mono hbW.size)
        have hbt := hb0.trans (hbq.mono hb0.size)
        have ho1 := Lib.hid (below_kept b1.out hbq)
        refine wpList_appRec rfl rfl rfl ho1.out rfl bk22 (rec_cells ro22) (by omega) hbt.size ?_
        intro v7 w7 ho7 hg7 hl7
        have hb8 := hbt.grown hg7 hbt.size (fun g h => (b1.out.lt g h).1)
        have hA2 := all_snoc (rec_hO _) (rec_rg _) b1.out b2.out b3.out hbq (ro22.mono (Nat.le_trans hb1.size (Nat.le_of_eq hB0e.out.symm))) nd22 (fun g hg => Nat.le_trans (Nat.le_trans hbW.size (Nat.le_of_eq hB0e.out.symm)) (ro22.range g hg).1) (by rw [hPk.out]; exact ho7) hg7 hl7
        rw [← hnx.out] at hA2
        replace hA2 := Lib.hid hA2
        clear ho7 hg7 hl7
        go_wp2
        exact ⟨⟨kk + 1, by omega, rfl, hA2.out, hb8⟩, by simp [intOf]; omega⟩
def alRootL (r : RootD) (p1 : Option Addr) (c1 : Nat) (p2 : Option Addr) (c2 : Nat) (gb B0 : Nat) (ov : Value) : List (Value → World → Prop) := [
  Eq1 (ov),
  Eq1 (.pointer (some ⟨gb, 4, none⟩)),
  Eq1 (.pointer (some ⟨gb, 4, none⟩)),
  Eq1 (.pointer (some ⟨gb, 7, none⟩)),
  Eq1 (.func (.func 44) #[] #[]),
  Eq1 (.agg #[.int .i64 r.r, .int .i64 r.h, .int .i64 r.q, .slice p1 r.sum.length c1, .slice p2 r.sig.length c2]),
  OwnW RootO B0 r,
  SlW RootO 27 B0 r]
theorem alRootS (r : RootD) (p1 : Option Addr) (c1 : Nat) (p2 : Option Addr) (c2 : Nat) (gb B0 : Nat) (ov : Value) : ∀ j x' q q', (alRootL r p1 c1 p2 c2 gb B0 ov).getD j (fun _ _ => True) x' q → Below q.heap.size q q' → (alRootL r p1 c1 p2 c2 gb B0 ov).getD j (fun _ _ => True) x' q' := by
  refine sta_all _ ?_
  simp only [alRootL, List.mem_cons, forall_eq_or_imp, List.not_mem_nil, false_implies, implies_true, and_true]
  exact ⟨sta_eq _, sta_eq _, sta_eq _, sta_eq _, sta_eq _, sta_eq _, sta_ownWT _ _, sta_slWT _ _ _⟩
set_option maxRecDepth 20000 in
set_option maxHeartbeats 16000000 in
theorem allRoot_c (B gb : Nat) (S : List Nat) (L : List RecD) (M : List RootD) (hlen : M.length ≤ 100000) (w : World) (hGS : GS B w S gb L M) :
    Calls Try.prog 36 #[.pointer (some ⟨gb, 4, none⟩)] w fun e w' => ∃ v, e = .returned v ∧ AllO RootO 27 5 w.heap.size w' v M ∧ Below w.heap.size w w' := by
  obtain ⟨l1, m1, l2, m2, g1, -, -, -, g5, g6⟩ := hGS
  obtain ⟨vs, bls, D, a1, a2, -, -, -, -, -, a8⟩ := g6
  clear g5
  obtain ⟨lq, cc, rfl⟩ := own_sl a1
  have hrow : 0 < M.length → ∃ gl, lq = some ⟨gl, 0, none⟩ ∧ gl < w.heap.size := fun h => by
    rcases a1.2 with ⟨e, e2⟩ | ⟨g, cap, cur, e, h1, h2, _⟩
    · omega
    · injection e with e
      exact ⟨g, e, (Array.getElem?_eq_some_iff.1 h2).1⟩
  have hcell : ∀ gl, lq = some ⟨gl, 0, none⟩ → ∀ (i : Nat) (r : RootD) (v : Value), M[i]? = some r → vs[i]? = some v → ∀ j, j < 5 → w.cell? ⟨gl, i * 5 + j, none⟩ = (cellsV v)[j]? := fun gl e i r v hr hv j hj => by
    subst e
    have hi := (List.getElem?_eq_some_iff.1 hr).1
    have h1 : (i + 1) * 5 ≤ M.length * 5 := Nat.mul_le_mul_right _ hi
    have h3 : (i + 1) * 5 = i * 5 + 5 := Nat.succ_mul i 5
    rw [a1.cellAt (i * 5 + j) (by omega)]
    refine flat_get 5 vs i v (fun u hu => ?_) hv j hj
    obtain ⟨i2, hi2⟩ := List.mem_iff_getElem?.1 hu
    have hl2 : i2 < M.length := by rw [← a2.1]; exact (List.getElem?_eq_some_iff.1 hi2).1
    exact (root_cells (a2.2.2 i2 u _ _ hi2 (List.getElem?_eq_getElem hl2) (List.getElem?_eq_getElem (by rw [a2.2.1]; exact hl2)))).1
  obtain ⟨N, hN⟩ : ∃ N, N = M.length := ⟨_, rfl⟩
  have hNb : N ≤ 100000 := by omega
  rw [← hN] at hrow g1
  have hlast : M.take N = M := by rw [hN]; exact List.take_length
  have hrec : ∀ kk, kk < N → ∃ r v bl, M[kk]? = some r ∧ vs[kk]? = some v ∧ RootO B w v r bl ∧ r.ok := fun kk hk => by
    have h1 : kk < M.length := by omega
    have h2 : kk < vs.length := by rw [a2.1]; exact h1
    have h3 : kk < bls.length := by rw [a2.2.1]; exact h1
    exact ⟨_, _, _, List.getElem?_eq_getElem h1, List.getElem?_eq_getElem h2, a2.2.2 kk _ _ _ (List.getElem?_eq_getElem h2) (List.getElem?_eq_getElem h1) (List.getElem?_eq_getElem h3), (a8 _ (List.getElem_mem h1)).1⟩
  have hsn : ∀ kk r, M[kk]? = some r → M.take (kk + 1) = M.take kk ++ [r] := fun kk r h => by
    have hi := (List.getElem?_eq_some_iff.1 h).1
    have := List.getElem?_eq_getElem hi
    rw [this] at h
    rw [List.take_succ_eq_append_getElem hi, Option.some.inj h]
  obtain ⟨P, hP⟩ : ∃ P : Nat → List RootD, P = fun i => M.take i := ⟨_, rfl⟩
  have hP0 : P 0 = [] := by rw [hP]; rfl
  have hPn : P N = M := by rw [hP]; exact hlast
  have hPs : ∀ kk r, M[kk]? = some r → P (kk + 1) = P kk ++ [r] := by rw [hP]; exact hsn
  have hPl : ∀ kk, kk ≤ N → (P kk).length = kk := fun kk hk => by rw [hP]; simp; omega
  rw [← hPn]
  clear hP hlast hsn hPn a1 a2 a8
  replace hrow := Lib.hid hrow
  replace hcell := Lib.hid hcell
  replace hrec := Lib.hid hrec
  replace hP0 := Lib.hid hP0
  replace hPs := Lib.hid hPs
  replace hPl := Lib.hid hPl
  replace hN := Lib.hid hN
  unfold ghC at g1
  obtain ⟨x0, x1, x2, x3, x4, x5, x6, x7⟩ := blk8 g1
  go_enter Try.func36, Try.ntmps36
  go_wp2
  clear x0 x1 x2 x3 x4 x5 x6 x7
  go_loopw [3, 11] (fun ov i wr => ∃ kk : Nat, kk ≤ N ∧ i = .int .i64 kk ∧ AllO RootO 27 5 w.heap.size wr ov (P kk) ∧ Below w.heap.size w wr) (fun _ i _ => (N - intOf i).toNat)
  case atStart => exact ⟨0, by omega, rfl, by rw [hP0.out]; exact all_nil, Below.refl _ _⟩
  case round =>
    obtain ⟨kk, hk, hi, hA, hb0⟩ := hrel
    subst hi
    by_cases he : kk = N
    · subst he
      have hpo := Lib.hid (show ∃ v, Ending.returned u3 = .returned v ∧ AllO RootO 27 5 w.heap.size wr v (P kk) ∧ Below w.heap.size w wr from ⟨u3, rfl, hA, hb0⟩)
      clear hA hk hb0
      go_wp2
      go_returns
      exact hpo.out
    · have hk0 : (0 : Int) ≤ (kk : Int) := by omega
      have hk1 : (kk : Int) < (N : Int) := by omega
      have hk2 : kk < N := by omega
      obtain ⟨r, vv, blr, hr, hv, hO, hrok⟩ := hrec.out kk hk2
      obtain ⟨gl, rfl, hgl⟩ := hrow.out (by omega)
      have hcc := hcell.out gl rfl kk r vv hr hv
      have hF := hO.f (S := []) (fun _ _ h => by cases h)
      obtain ⟨p1, c1, p2, c2, rfl, h1, h2⟩ := hF
      have y0 : wr.cell? ⟨gl, kk * 5, none⟩ = some (.int .i64 r.r) := (hb0.cell (p := ⟨gl, kk * 5, none⟩) hgl).trans (hcc 0 (by decide))
      have y1 : wr.cell? ⟨gl, kk * 5 + 1, none⟩ = some (.int .i64 r.h) := (hb0.cell (p := ⟨gl, kk * 5 + 1, none⟩) hgl).trans (hcc 1 (by decide))
      have y2 : wr.cell? ⟨gl, kk * 5 + 2, none⟩ = some (.int .i64 r.q) := (hb0.cell (p := ⟨gl, kk * 5 + 2, none⟩) hgl).trans (hcc 2 (by decide))
      have y3 : wr.cell? ⟨gl, kk * 5 + 3, none⟩ = some (.slice p1 r.sum.length c1) := (hb0.cell (p := ⟨gl, kk * 5 + 3, none⟩) hgl).trans (hcc 3 (by decide))
      have y4 : wr.cell? ⟨gl, kk * 5 + 4, none⟩ = some (.slice p2 r.sig.length c2) := (hb0.cell (p := ⟨gl, kk * 5 + 4, none⟩) hgl).trans (hcc 4 (by decide))
      have hnx := hPs.out kk r hr
      have hPk := hPl.out kk hk
      have hco0 := fun w1 (hb : Below w.heap.size w w1) => ownRoot_c r p1 c1 p2 c2 hrok w1 (h1.b.below hb) (h2.b.below hb)
      unfold rootV at hco0
      obtain ⟨vs2, bls2, b1, b2, b3⟩ := hA
      rw [hPk] at b1
      replace b1 := Lib.hid b1
      replace b2 := Lib.hid b2
      replace b3 := Lib.hid b3
      replace hco0 := Lib.hid hco0
      replace hnx := Lib.hid hnx
      replace hPk := Lib.hid hPk
      clear he hcc hr hv hrok hk2 hO h1 h2
      go_wp2
      refine at_world (fun W1 hW => ?_)
      have hbW : Below wr.heap.size wr W1 := by rw [hW]; go_grown
      have hX : Blk W1 wr.heap.size 27 #[.int .i64 r.r, .int .i64 r.h, .int .i64 r.q, .slice p1 r.sum.length c1, .slice p2 r.sig.length c2] := by rw [hW]; exact Blk.new _ _ _
      clear hW y0 y1 y2 y3 y4
      have hb1 := hb0.trans (hbW.mono hb0.size)
      have hG := g1.below hb1
      have hco := Lib.hid fun w1 (hb : Below W1.heap.size W1 w1) => hco0.out w1 (hb1.trans (hb.mono hb1.size))
      clear hco0
      obtain ⟨XB, hXB⟩ : ∃ XB, XB = wr.heap.size := ⟨_, rfl⟩
      rw [← hXB] at hX ⊢
      clear hXB
      obtain ⟨B0, hB0e⟩ : ∃ B0, B0 = W1.heap.size := ⟨_, rfl⟩
      have hB0 := Nat.le_of_eq hB0e
      replace hB0e := Lib.hid hB0e
      obtain ⟨ov, hov⟩ : ∃ ov, ov = u3 := ⟨_, rfl⟩
      rw [← hov] at b1 b3 ⊢
      clear hov
      refine wp_region_grow5 8 (fun k => (Nat.ble 15 k && Nat.ble k 22)) _ [] (fun a b => Below a.heap.size a b) (Below.refl _ _).drew below_tr (fun j x' q => (alRootL r p1 c1 p2 c2 gb B0 ov).getD j (fun _ _ => True) x' q) (fun _ => false) (fun f => #[.pointer (some ⟨gb, 4, none⟩), _, _, ov, _, .pointer (some ⟨XB, 0, none⟩), _, _, _, _, _, _, _, _, _, f 15, f 16, f 17, f 18, f 19, f 20, f 21, f 22, _, _, _]) (fun f => rfl) (by kernel_rfl) (by kernel_rfl) (by kernel_rfl) (by kernel_rfl) (by kernel_rfl) (alRootS _ _ _ _ _ _ _ _) (fun _ _ _ h => by cases h) ?_ ?_
      · refine steps5_cons ?_ ?_
        · intro f w1 hb hd Q hK
          clear hd
          have hK := Lib.hid hK
          go_wp2
          exact hK.out _ _ rfl (Below.refl _ _) (fun h => by cases h)
        refine steps5_cons ?_ ?_
        · intro f w1 hb hd Q hK
          clear hd
          have hK := Lib.hid hK
          go_wp2
          exact hK.out _ _ rfl (Below.refl _ _) (fun h => by cases h)
        refine steps5_cons ?_ ?_
        · intro f w1 hb hd Q hK
          have e16 : f 16 = .pointer (some ⟨gb, 4, none⟩) := hd.1 rfl
          clear hd
          simp only [e16] at hK
          have hK := Lib.hid hK
          go_wp2
          exact hK.out _ _ rfl (Below.refl _ _) (fun h => by cases h)
        refine steps5_cons ?_ ?_
        · intro f w1 hb hd Q hK
          have e17 : f 17 = .pointer (some ⟨gb, 4, none⟩) := hd.1 rfl
          clear hd
          simp only [e17] at hK
          have hK := Lib.hid hK
          go_wp2
          exact hK.out _ _ rfl (Below.refl _ _) (fun h => by cases h)
        refine steps5_cons ?_ ?_
        · intro f w1 hb hd Q hK
          have e18 : f 18 = .pointer (some ⟨gb, 7, none⟩) := hd.1 rfl
          clear hd
          simp only [e18] at hK
          have hK := Lib.hid hK
          have c0 := (hG.below hb).cell 7
          simp only [List.getElem?_toArray, List.getElem?_cons_zero, List.getElem?_cons_succ] at c0
          go_wp2
          exact hK.out _ _ rfl (Below.refl _ _) (fun h => by cases h)
        refine steps5_cons ?_ ?_
        · intro f w1 hb hd Q hK
          clear hd
          have hK := Lib.hid hK
          obtain ⟨c0, c1, c2, c3, c4⟩ := blk5v (hX.below hb)
          go_wp2
          exact hK.out _ _ rfl (Below.refl _ _) (fun h => by cases h)
        refine steps5_cons ?_ ?_
        · intro f w1 hb hd Q hK
          have e19 : f 19 = .func (.func 44) #[] #[] := hd.1 rfl
          have e20 : f 20 = .agg #[.int .i64 r.r, .int .i64 r.h, .int .i64 r.q, .slice p1 r.sum.length c1, .slice p2 r.sig.length c2] := hd.2.1 rfl
          clear hd
          simp only [e19, e20] at hK
          have hK := Lib.hid hK
          go_wp2_with fail
          refine (hco.out _ hb).mono ?_
          rintro e w2 ⟨v2, bl2, rfl, ho2, nd2, hb2⟩
          replace ho2 := Lib.hid ho2
          replace nd2 := Lib.hid nd2
          go_wp2
          exact hK.out _ _ ⟨_, ho2.out.mono (Nat.le_trans hB0 hb.size), nd2.out⟩ hb2 (fun h => by cases h)
        refine steps5_cons ?_ ?_
        · intro f w1 hb hd Q hK
          obtain ⟨bl21, ⟨pp1, cc1, pp2, cc2, e21, o1, o2, hbl⟩, nd⟩ := (hd.1 rfl : OwnW RootO B0 r (f 21) w1)
          unfold rootV at e21
          have hro := Lib.hid (show RootO B0 w1 (rootV r pp1 cc1 pp2 cc2) r bl21 from ⟨_, _, _, _, rfl, o1, o2, hbl⟩)
          replace nd := Lib.hid nd
          clear o1 o2 hbl
          clear hd
          simp only [e21] at hK
          have hK := Lib.hid hK
          go_wp2
          exact hK.out _ _ ⟨_, _, _, rfl, Blk.new _ _ _, hro.out.ext (S := []) (S' := []) (.below ((Below.refl _ _).alloc (Nat.le_refl _) _)) (fun _ _ h => by cases h), nd.out⟩ ((Below.refl _ _).alloc (Nat.le_refl _) _) (fun h => by cases h)
        trivial
      · intro f w1 hb hf hne
        have d15 : f 15 = ov := hf 0 _ _ (by decide) rfl rfl
        obtain ⟨g22, v22, bl22, e22, bk22, ro22, nd22⟩ : SlW RootO 27 B0 r (f 22) w1 := hf 7 _ _ (by decide) rfl rfl
        simp only [d15, e22]
        clear hf hne d15 e22 hco
        have hbq := hbW.trans (hb.mono hbW.size)
        have hbt := hb0.trans (hbq.mono hb0.size)
        have ho1 := Lib.hid (below_kept b1.out hbq)
        refine wpList_appRoot rfl rfl rfl ho1.out rfl bk22 (root_cells ro22) (by omega) hbt.size ?_
        intro v7 w7 ho7 hg7 hl7
        have hb8 := hbt.grown hg7 hbt.size (fun g h => (b1.out.lt g h).1)
        have hA2 := all_snoc (root_hO _) (root_rg _) b1.out b2.out b3.out hbq (ro22.mono (Nat.le_trans hb1.size (Nat.le_of_eq hB0e.out.symm))) nd22 (fun g hg => Nat.le_trans (Nat.le_trans hbW.size (Nat.le_of_eq hB0e.out.symm)) (ro22.range g hg).1) (by rw [hPk.out]; exact ho7) hg7 hl7
        rw [← hnx.out] at hA2
        replace hA2 := Lib.hid hA2
        clear ho7 hg7 hl7
        go_wp2
        exact ⟨⟨kk + 1, by omega, rfl, hA2.out, hb8⟩, by simp [intOf]; omega⟩
end Go.Proofs.Ytdgaoljobpneaaa
