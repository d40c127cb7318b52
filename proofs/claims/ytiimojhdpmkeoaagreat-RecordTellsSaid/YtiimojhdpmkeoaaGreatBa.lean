/- flatBytes: its rows, apart (rows that are nil too). -/
import Derived.Test.YtiimojhdpmkeoaaGreatFl
import Derived.Test.YtiimojhdpmkeoaaGreatKd
import Derived.Deep.RegionWith
namespace Go.Proofs.YtiimojhdpmkeoaaGreat
open Go.RowKit
theorem bs_infoK : (Tryz.prog.info? 23).map (fun i => (i.zero, i.size, i.bytes)) = some (some (.slice none 0 0), 1, 24) := by kernel_rfl
theorem st_drewN (w : World) (n : Nat) : Below w.heap.size w (w.drewN n) := ⟨rfl, rfl, rfl, Nat.le_refl _, fun _ _ => rfl⟩
/-- a row's value: nil, or at its block -/
def rowV (nl : Nat → Bool) (gr nr cr : Nat → Nat) (k : Nat) : Value := if nl k then .slice none 0 0 else .slice (some ⟨gr k, 0, none⟩) (nr k) (cr k)
theorem rowV_nil {nl : Nat → Bool} {gr nr cr : Nat → Nat} {k : Nat} (h : nl k = true) : rowV nl gr nr cr k = .slice none 0 0 := if_pos h
theorem rowV_at {nl : Nat → Bool} {gr nr cr : Nat → Nat} {k : Nat} (h : nl k = false) : rowV nl gr nr cr k = .slice (some ⟨gr k, 0, none⟩) (nr k) (cr k) := if_neg (by rw [h]; decide)
/-- rows of rows: block G, K long, the first k0 known -/
def PtrB (w : World) (G K k0 : Nat) (v : Nat → Value) : Prop := ∃ cur : Array Value, w.heap[G]? = some (.cells cur 23 (0, 0)) ∧ K ≤ cur.size ∧ ∀ k, k < k0 → cur[k]? = some (v k)
theorem PtrB.lt {w : World} {G K k0 : Nat} {v : Nat → Value} (h : PtrB w G K k0 v) : G < w.heap.size := by
  obtain ⟨cur, h1, _⟩ := h
  exact (Array.getElem?_eq_some_iff.1 h1).1
theorem PtrB.below {w w' : World} {G K k0 : Nat} {v : Nat → Value} (h : PtrB w G K k0 v) (hb : Below w.heap.size w w') : PtrB w' G K k0 v := by
  have hl := h.lt
  obtain ⟨cur, h1, h2⟩ := h
  exact ⟨cur, (hb.block G hl).trans h1, h2⟩
theorem PtrB.grown {w w' : World} {G K k0 : Nat} {v : Nat → Value} {row : Option Nat} (h : PtrB w G K k0 v) (hg : w.grownBy w' row) (hne : some G ≠ row) : PtrB w' G K k0 v := by
  have hl := h.lt
  obtain ⟨cur, h1, h2⟩ := h
  exact ⟨cur, (hg.block G hl hne).trans h1, h2⟩
theorem PtrB.far {w : World} {G K k0 : Nat} {v : Nat → Value} (h : PtrB w G K k0 v) {p : Addr} (hp : G ≠ p.block) (u : Value) : PtrB (w.setCell p u) G K k0 v := by
  obtain ⟨cur, h1, h2⟩ := h
  exact ⟨cur, (Below.heap_setCell w p u G hp).trans h1, h2⟩
theorem PtrB.cell {w : World} {G K k0 : Nat} {v : Nat → Value} (h : PtrB w G K k0 v) (i : Nat) (hi : i < k0) : w.cell? ⟨G, i, none⟩ = some (v i) := by
  obtain ⟨cur, h1, h2, h3⟩ := h
  rw [cell_of_row w G i cur _ (0, 0) h1]
  exact h3 i hi
theorem PtrB.some_ {w : World} {G K k0 : Nat} {v : Nat → Value} (h : PtrB w G K k0 v) (i : Nat) (hi : i < K) : ∃ u, w.cell? ⟨G, i, none⟩ = some u := by
  obtain ⟨cur, h1, h2, h3⟩ := h
  rw [cell_of_row w G i cur _ (0, 0) h1]
  exact ⟨_, Array.getElem?_eq_getElem (by omega)⟩
theorem PtrB.frozen {w : World} {G K k0 : Nat} {v : Nat → Value} (h : PtrB w G K k0 v) (i : Nat) : w.frozen? ⟨G, i, none⟩ = false := by
  obtain ⟨cur, h1, _⟩ := h
  exact frozen_of_row w G i cur _ h1
theorem PtrB.set_ {w : World} {G K k0 : Nat} {v : Nat → Value} (h : PtrB w G K k0 v) (i : Nat) (hi : i < K) (x : Value) {k1 : Nat} {v' : Nat → Value} (hx : v' i = x) (hv : ∀ j, j < k1 → j ≠ i → j < k0 ∧ v' j = v j) : PtrB (w.setCell ⟨G, i, none⟩ x) G K k1 v' := by
  obtain ⟨cur, h1, h2, h3⟩ := h
  refine ⟨cur.setIfInBounds i x, by simp [World.setCell, Array.getElem?_modify, h1], by simp [h2], fun k hk => ?_⟩
  by_cases e : i = k
  · subst e
    rw [Array.getElem?_setIfInBounds_self_of_lt (by omega), hx]
  · obtain ⟨a, b⟩ := hv k hk (fun h => e h.symm)
    rw [Array.getElem?_setIfInBounds_ne e, h3 k a, b]
/-- the rows told of: which are nil, their blocks, lengths, rooms, cells -/
structure StB (B : Nat) (w0 : World) (L K : Nat) (nl : Nat → Bool) (gr nr cr : Nat → Nat) (f : Nat → Nat → Int) (w : World) : Prop where
  ptr : PtrB w L K K (rowV nl gr nr cr)
  row : ∀ k, k < K → nl k = false → RowB w (gr k) (nr k) (cr k) (f k)
  below : Below B w0 w
  keep : ∀ X, X < w0.heap.size → (∀ k, k < K → nl k = false → gr k ≠ X) → w.heap[X]? = w0.heap[X]?
/-- .. whose blocks are apart -/
structure ApB (B L K : Nat) (nl : Nat → Bool) (gr nr : Nat → Nat) : Prop where
  ne : ∀ j k, j < K → k < K → nl j = false → nl k = false → j ≠ k → gr j ≠ gr k
  far : ∀ k, k < K → nl k = false → gr k ≠ L
  low : ∀ k, k < K → nl k = false → B ≤ gr k
  len : ∀ k, k < K → nr k ≤ 100000
  none_ : ∀ k, k < K → nl k = true → nr k = 0
  many : K ≤ 400
section
variable {B : Nat} {w0 : World} {L K : Nat} {nl : Nat → Bool} {gr nr cr : Nat → Nat} {f : Nat → Nat → Int} {w w' : World}
theorem StB.after (h : StB B w0 L K nl gr nr cr f w) (hB : B ≤ w.heap.size) (hb : Below w.heap.size w w') : StB B w0 L K nl gr nr cr f w' :=
  ⟨h.ptr.below hb, fun k hk hn => (h.row k hk hn).below hb, h.below.trans (hb.mono hB), fun X h1 h2 => (hb.block X (Nat.lt_of_lt_of_le h1 h.below.size)).trans (h.keep X h1 h2)⟩
theorem StB.size (h : StB B w0 L K nl gr nr cr f w) (hB : B ≤ w0.heap.size) : B ≤ w.heap.size := Nat.le_trans hB h.below.size
theorem StB.congr (h : StB B w0 L K nl gr nr cr f w) {f' : Nat → Nat → Int} (he : ∀ k, k < K → ∀ i, i < nr k → f k i = f' k i) : StB B w0 L K nl gr nr cr f' w := ⟨h.ptr, fun k hk hn => (h.row k hk hn).congr (he k hk), h.below, h.keep⟩
theorem StB.set_ (h : StB B w0 L K nl gr nr cr f w) (a : ApB B L K nl gr nr) {k i : Nat} (hk : k < K) (hn : nl k = false) (hi : i < nr k) (x : Int) : StB B w0 L K nl gr nr cr (fun j t => if j = k ∧ t = i then x else f j t) (w.setCell ⟨gr k, i, none⟩ (.int .u8 x)) := by
  refine ⟨h.ptr.far (p := ⟨gr k, i, none⟩) (fun e => a.far k hk hn e.symm) _, fun j hj hnj => ?_, h.below.setCell (p := ⟨gr k, i, none⟩) (a.low k hk hn) _, fun X h1 h2 => (Below.heap_setCell w _ _ X (fun e => h2 k hk hn e.symm)).trans (h.keep X h1 h2)⟩
  by_cases e : j = k
  · subst e
    exact ((h.row j hj hnj).set_ i hi x).congr fun t _ => by by_cases e : t = i <;> simp [e]
  · exact ((h.row j hj hnj).far (p := ⟨gr k, i, none⟩) (a.ne j k hj hk hnj hn e) _).congr fun t _ => by simp [e]
end
theorem st_drewB (w : World) : Below w.heap.size w w.drew := ⟨rfl, rfl, rfl, Nat.le_refl _, fun _ _ => rfl⟩
def upn (f : Nat → Nat) (k v : Nat) (j : Nat) : Nat := if j = k then v else f j
theorem upn_same (f : Nat → Nat) (k v : Nat) : upn f k v k = v := if_pos rfl
theorem upn_ne (f : Nat → Nat) (k v : Nat) {j : Nat} (h : j ≠ k) : upn f k v j = f j := if_neg h
theorem ptrB_of {w : World} {g n : Nat} {cells : List Value} (h : w.ownsRow g 23 1 (.slice (some ⟨g, 0, none⟩) n n) n cells) : PtrB w g n 0 (fun _ => undef) := by
  obtain ⟨hl, h | ⟨g', cap, cur, h1, h2, h3, h4, h5, h6, h7⟩⟩ := h
  · exact absurd h.1 (by simp)
  · injection h1 with h1 h1a h1b
    injection h1 with h1
    injection h1 with h1
    subst h1
    subst h1b
    exact ⟨cur, h3, by omega, fun k hk => absurd hk (by omega)⟩
/-- the second rows: gs in block G, its first k told of -/
structure OutB (B : Nat) (w0 : World) (L K : Nat) (nl : Nat → Bool) (gr nr cr : Nat → Nat) (x G k : Nat) (h c : Nat → Nat) (w : World) : Prop where
  st : StB B w0 L K nl gr nr cr (fun j t => mb j t) w
  gs : PtrB w G K k (fun j => .slice (some ⟨h j, 0, none⟩) (nr j + 64) (c j))
  row : ∀ j, j < k → RowB w (h j) (nr j + x) (c j) (fun t => mb j t)
  at_ : ∀ j, j < k → (h j = gr j ∧ nl j = false) ∨ G < h j
  old : ∀ j, j < K → nl j = false → gr j < G
  oldL : L < G
  low : B ≤ G
  low0 : w0.heap.size ≤ G
section
variable {B : Nat} {w0 : World} {L K : Nat} {nl : Nat → Bool} {gr nr cr : Nat → Nat} {x G k : Nat} {h c : Nat → Nat} {w w' : World}
theorem OutB.size (o : OutB B w0 L K nl gr nr cr x G k h c w) : G < w.heap.size := o.gs.lt
theorem OutB.after (o : OutB B w0 L K nl gr nr cr x G k h c w) (hb : Below w.heap.size w w') : OutB B w0 L K nl gr nr cr x G k h c w' :=
  ⟨o.st.after (Nat.le_trans o.low (Nat.le_of_lt o.size)) hb, o.gs.below hb, fun j hj => (o.row j hj).below hb, o.at_, o.old, o.oldL, o.low, o.low0⟩
theorem OutB.grown (o : OutB B w0 L K nl gr nr cr x G k h c w) (a : ApB B L K nl gr nr) (hk : k < K) {g : Nat} (hgr : w.grownBy w' (some g)) (hg : (g = gr k ∧ nl k = false ∧ RowB w' (gr k) (nr k) (cr k) (fun t => mb k t)) ∨ (G < g ∧ ∀ j, j < k → h j ≠ g)) : OutB B w0 L K nl gr nr cr x G k h c w' := by
  have h1 : ∀ j, j < k → h j ≠ g := fun j hj => by
    rcases hg with ⟨rfl, hn, _⟩ | hg
    · rcases o.at_ j hj with ⟨e, hnj⟩ | e
      · rw [e]; exact a.ne j k (by omega) hk hnj hn (by omega)
      · have := o.old k hk hn
        omega
    · exact hg.2 j hj
  have hS := o.size
  have hsz : B ≤ w.heap.size := by have := o.low; omega
  refine ⟨⟨o.st.ptr.grown hgr (fun e => ?_), fun j hj hnj => ?_, o.st.below.grown hgr hsz (fun k' h' => ?_), fun X h1 h2 => (hgr.block X (Nat.lt_of_lt_of_le h1 o.st.below.size) (fun e => ?_)).trans (o.st.keep X h1 h2)⟩, o.gs.grown hgr (fun e => ?_), fun j hj => (o.row j hj).grown hgr (fun e => ?_), o.at_, o.old, o.oldL, o.low, o.low0⟩
  · injection e with e
    rcases hg with ⟨rfl, hn, _⟩ | hg
    · exact a.far k hk hn e.symm
    · have := o.oldL
      omega
  · by_cases e : j = k
    · subst e
      rcases hg with hg | hg
      · exact hg.2.2
      · exact (o.st.row j hj hnj).grown hgr (fun e => by injection e with e; have := o.old j hj hnj; omega)
    · refine (o.st.row j hj hnj).grown hgr (fun e2 => ?_)
      injection e2 with e2
      rcases hg with ⟨rfl, hn, _⟩ | hg
      · exact a.ne j k hj hk hnj hn e e2
      · have := o.old j hj hnj
        omega
  · injection h' with h'
    subst h'
    rcases hg with ⟨rfl, hn, _⟩ | hg
    · exact a.low k hk hn
    · have := o.low
      omega
  · injection e with e
    rcases hg with ⟨rfl, hn, _⟩ | hg
    · exact h2 k hk hn e.symm
    · have := o.low0
      omega
  · injection e with e
    rcases hg with ⟨rfl, hn, _⟩ | hg
    · have := o.old k hk hn
      omega
    · omega
  · injection e with e
    exact h1 j hj e
theorem OutB.put (o : OutB B w0 L K nl gr nr cr x G k h c w) (hk : k < K) {hc cc : Nat} (hR : RowB w hc (nr k + x) cc (fun t => mb k t)) (hp : (hc = gr k ∧ nl k = false) ∨ G < hc) : OutB B w0 L K nl gr nr cr x G (k + 1) (upn h k hc) (upn c k cc) (w.setCell ⟨G, k, none⟩ (.slice (some ⟨hc, 0, none⟩) (nr k + 64) cc)) := by
  have hne : hc ≠ G := by
    rcases hp with ⟨e, hn⟩ | e
    · have := o.old k hk hn
      omega
    · omega
  refine ⟨⟨o.st.ptr.far (p := ⟨G, k, none⟩) (by have := o.oldL; show L ≠ G; omega) _, fun j hj hnj => (o.st.row j hj hnj).far (p := ⟨G, k, none⟩) (by have := o.old j hj hnj; show gr j ≠ G; omega) _, o.st.below.setCell (p := ⟨G, k, none⟩) o.low _, fun X h1 h2 => (Below.heap_setCell w ⟨G, k, none⟩ _ X (by have := o.low0; show X ≠ G; omega)).trans (o.st.keep X h1 h2)⟩, ?_, fun j hj => ?_, fun j hj => ?_, o.old, o.oldL, o.low, o.low0⟩
  · refine o.gs.set_ k hk _ (by simp only [upn_same]) fun j hj e => ⟨by omega, ?_⟩
    simp only [upn_ne _ _ _ e]
  · by_cases e : j = k
    · subst e
      rw [upn_same, upn_same]
      exact hR.far (p := ⟨G, j, none⟩) hne _
    · rw [upn_ne _ _ _ e, upn_ne _ _ _ e]
      refine (o.row j (by omega)).far (p := ⟨G, k, none⟩) ?_ _
      rcases o.at_ j (by omega) with ⟨e2, hn⟩ | e2
      · have := o.old j (by omega) hn
        show h j ≠ G
        omega
      · show h j ≠ G
        omega
  · by_cases e : j = k
    · subst e
      rw [upn_same]
      exact hp
    · rw [upn_ne _ _ _ e]
      exact o.at_ j (by omega)
theorem OutB.restart (o : OutB B w0 L K nl gr nr cr x G k h c w) : OutB B w0 L K nl gr nr cr 0 G 0 h c w :=
  ⟨o.st, by
    obtain ⟨cur, h1, h2, h3⟩ := o.gs
    exact ⟨cur, h1, h2, fun j hj => absurd hj (by omega)⟩, fun j hj => absurd hj (by omega), fun j hj => absurd hj (by omega), o.old, o.oldL, o.low, o.low0⟩
theorem OutB.first (hS : StB B w0 L K nl gr nr cr (fun j t => mb j t) w) (hB : B ≤ w.heap.size) (hgr : w.grownBy w' none) (hP : PtrB w' w.heap.size K 0 (fun _ => undef)) : OutB B w0 L K nl gr nr cr x w.heap.size 0 h c w' := by
  refine ⟨⟨hS.ptr.grown hgr (by simp), fun j hj hn => (hS.row j hj hn).grown hgr (by simp), hS.below.grown hgr hB (fun k h => by cases h), fun X h1 h2 => (hgr.block X (Nat.lt_of_lt_of_le h1 hS.below.size) (by simp)).trans (hS.keep X h1 h2)⟩, ?_, fun j hj => absurd hj (by omega), fun j hj => absurd hj (by omega), fun j hj hn => (hS.row j hj hn).lt, hS.ptr.lt, hB, hS.below.size⟩
  obtain ⟨cur, h1, h2, h3⟩ := hP
  exact ⟨cur, h1, h2, fun j hj => absurd hj (by omega)⟩
theorem OutB.far (o : OutB B w0 L K nl gr nr cr x G k h c w) {p : Addr} (hp : G < p.block) (hh : ∀ j, j < k → h j ≠ p.block) (u : Value) : OutB B w0 L K nl gr nr cr x G k h c (w.setCell p u) :=
  ⟨⟨o.st.ptr.far (by have := o.oldL; omega) _, fun j hj hn => (o.st.row j hj hn).far (by have := o.old j hj hn; omega) _, o.st.below.setCell (by have := o.low; omega) _, fun X h1 h2 => (Below.heap_setCell w p _ X (by have := o.low0; omega)).trans (o.st.keep X h1 h2)⟩, o.gs.far (by omega) _, fun j hj => (o.row j hj).far (hh j hj) _, o.at_, o.old, o.oldL, o.low, o.low0⟩
end
theorem run_app2 (w : World) (ty : TypeId) {g n c : Nat} {f f2 : Nat → Int} (hR : RowB w g n c f) (ad : Addr) (m c2 : Nat) (hf : ∀ i, i < n → f i = f2 i) (hnews : ∀ j, j < m → w.cell? (ad.add j) = some (.int .u8 (f2 (n + j)))) (hb : n + m ≤ 140737488355328) :
    ∃ g' c' w', (Builtin.append_ #[23, 23] ty #[.slice (some ⟨g, 0, none⟩) n c, .slice (some ad) m c2]).run Tryz.prog w = .ok (.slice (some ⟨g', 0, none⟩) (n + m) c') w' ∧ RowB w' g' (n + m) c' f2 ∧ ((g' = g ∧ c' = c ∧ n + m ≤ c ∧ w.grownBy w' (some g)) ∨ (g' = w.heap.size ∧ c < n + m ∧ w.grownBy w' none)) := by
  obtain ⟨i, hi, hz, hs, hby⟩ := info_parts u8_infoK
  obtain ⟨cur, h1, h2, h3, h4, h5⟩ := hR
  have hcat : cB n f ++ (List.range m).map (fun j => Value.int .u8 (f2 (n + j))) = cB (n + m) f2 := by
    rw [cB_congr hf]
    unfold cB
    rw [List.range_add, List.map_append, List.map_map]
    rfl
  have hnl : ((List.range m).map fun j => Value.int .u8 (f2 (n + j))).length = m * i.size := by rw [hs]; simp
  have hnv : ∀ j u, ((List.range m).map fun j => Value.int .u8 (f2 (n + j)))[j]? = some u → w.cell? (ad.add j) = some u := fun j u hu => by
    rcases Nat.lt_or_ge j m with hj | hj
    · rw [hnews j hj]
      simpa [hj] using hu
    · rw [List.getElem?_eq_none (by simpa using hj)] at hu
      cases hu
  have hone : ∀ u ∈ (List.range m).map (fun j => Value.int .u8 (f2 (n + j))), u.oneCell' = true := fun u hu => by
    obtain ⟨j, _, rfl⟩ := List.mem_map.1 hu
    rfl
  by_cases hroom : n + m ≤ c
  · have hr := run_append_room (P := Tryz.prog) w 23 ty 5 i bs_underK hi g n c cur h1 ad m c2 _ hnl hnv hone hroom (by rw [hs, h4]; simp; omega)
    refine ⟨g, c, _, hr, ⟨_, setRow_heap w g cur _ _ _ h1, hroom, h3, ?_, ?_⟩, .inl ⟨rfl, rfl, hroom, ⟨rfl, rfl, rfl, by simp [World.setRow], fun k _ hk => setRow_other w g k _ (fun e => hk (by rw [e]))⟩⟩⟩
    · simp [hs, h4]; omega
    · simp only [hs, Nat.mul_one]
      rw [h5, hcat, List.take_left' (by rw [cB_len])]
  · have hr := run_append_grow (P := Tryz.prog) w 23 ty 5 i (.int .u8 0) bs_underK hi hz ⟨g, 0, none⟩ n c (cB n f) (by rw [hs, cB_len, Nat.mul_one]) (fun j u hu => by
      have hadd : (⟨g, 0, none⟩ : Addr).add j = ⟨g, j, none⟩ := by unfold Addr.add; split <;> simp_all
      have hj : j < n := by
        rcases Nat.lt_or_ge j n with hj | hj
        · exact hj
        · rw [List.getElem?_eq_none (by rw [cB_len]; exact hj)] at hu
          cases hu
      rw [hadd, RowB.cell ⟨cur, h1, h2, h3, h4, h5⟩ j hj, ← hu, cB_get n f j hj]) ad m c2 _ hnl hnv (by omega) (by omega) (growslice_fits (by omega) (by rw [hby]; omega))
    have hge := grownCap_ge w (n + m) c 5
    refine ⟨w.heap.size, _, _, hr, ⟨_, heap_alloc_new w.drew _, hge, grownCap_le_maxLen w _ _ _ (by unfold maxLen; omega), ?_, ?_⟩, .inr ⟨rfl, by omega, ⟨rfl, rfl, rfl, by simp, fun k hk h => (World.grownBy_alloc w.drew _ none).block k hk h⟩⟩⟩
    · simp only [Array.size_append, List.size_toArray, size_zeroCells, cB_len]
      simp [Value.cells]
      omega
    · simp only [Array.toList_append]
      rw [hcat, List.take_left' (by rw [cB_len])]
section
variable {ops : Array Oper} {rest : List Oper} {o : Oper} {a : Act} {w : World} {Q : Exit → Act → World → Prop}
theorem wpList_app2 (hgd : o.guard = none) {s x : Operand} (ho : o.op = .call { callee := .builtin .append, args := #[s, x], argTypes := #[23, 23] }) {g n c : Nat} {f : Nat → Int} (hs : a.eval s = .slice (some ⟨g, 0, none⟩) n c) (hR : RowB w g n c f)
    {ad : Addr} {m c2 : Nat} (hx : a.eval x = .slice (some ad) m c2) (f2 : Nat → Int) (hf : ∀ i, i < n → f i = f2 i) (hnews : ∀ j, j < m → w.cell? (ad.add j) = some (.int .u8 (f2 (n + j)))) (hb : n + m ≤ 140737488355328)
    (h : ∀ g' c' w', RowB w' g' (n + m) c' f2 → ((g' = g ∧ c' = c ∧ n + m ≤ c ∧ w.grownBy w' (some g)) ∨ (g' = w.heap.size ∧ c < n + m ∧ w.grownBy w' none)) → wpList Tryz.prog ops Q rest (a.put o.dst (.slice (some ⟨g', 0, none⟩) (n + m) c')) w') : wpList Tryz.prog ops Q (o :: rest) a w :=
  wpList_plain hgd fun _ hK => by
    obtain ⟨g', c', w', hr, h2, h3⟩ := run_app2 w o.type hR ad m c2 hf hnews hb
    unfold Oper.wp execOp
    simp only [ho, resolve, invoke, builtin, Sem.run_bind, Sem.run_pure, Result.andThen_ok, List.map_toArray, List.map_cons, List.map_nil, hs, hx, hr]
    exact hK _ _ (h g' c' w' h2 h3)
end
/-- m bytes appended onto nil -/
theorem run_appB0 (w : World) (ty : TypeId) (f2 : Nat → Int) (ad : Addr) (m c2 : Nat) (hm : 0 < m) (hnews : ∀ j, j < m → w.cell? (ad.add j) = some (.int .u8 (f2 j))) (hb : m ≤ 100000000) :
    ∃ c' w', (Builtin.append_ #[23, 23] ty #[.slice none 0 0, .slice (some ad) m c2]).run Tryz.prog w = .ok (.slice (some ⟨w.heap.size, 0, none⟩) m c') w' ∧ RowB w' w.heap.size m c' f2 ∧ w.grownBy w' none := by
  obtain ⟨i, hi, hz, hs, hby⟩ := info_parts u8_infoK
  have hr := run_append_nil (P := Tryz.prog) w 23 ty 5 i (.int .u8 0) bs_underK hi hz ad m c2 (cB m f2) (by rw [hs, cB_len, Nat.mul_one]) (fun j u hu => by
    have hj : j < m := by
      rcases Nat.lt_or_ge j m with hj | hj
      · exact hj
      · rw [List.getElem?_eq_none (by rw [cB_len]; exact hj)] at hu
        cases hu
    rw [hnews j hj, ← hu, cB_get _ f2 j hj]) (by omega) (by omega) (by rw [hby]; omega)
  have hge := grownCap_ge w m 0 5
  have hmx := grownCap_le_maxLen w m 0 5 (by unfold maxLen; omega)
  refine ⟨_, _, hr, ⟨_, heap_alloc_new w.drew _, by omega, by omega, ?_, ?_⟩, ⟨rfl, rfl, rfl, by simp, fun k hk h => (World.grownBy_alloc w.drew _ none).block k hk h⟩⟩
  · simp only [Array.size_append, List.size_toArray, size_zeroCells, cB_len]
    simp [Value.cells]
    omega
  · simp only [Array.toList_append]
    rw [List.take_left' (by rw [cB_len])]
section
variable {ops : Array Oper} {rest : List Oper} {o : Oper} {a : Act} {w : World} {Q : Exit → Act → World → Prop}
theorem wpList_appB0 (hgd : o.guard = none) {s x : Operand} (ho : o.op = .call { callee := .builtin .append, args := #[s, x], argTypes := #[23, 23] }) (hs : a.eval s = .slice none 0 0)
    {ad : Addr} {m c2 : Nat} (hx : a.eval x = .slice (some ad) m c2) (f2 : Nat → Int) (hm : 0 < m) (hnews : ∀ j, j < m → w.cell? (ad.add j) = some (.int .u8 (f2 j))) (hb : m ≤ 100000000)
    (h : ∀ c' w', RowB w' w.heap.size m c' f2 → w.grownBy w' none → wpList Tryz.prog ops Q rest (a.put o.dst (.slice (some ⟨w.heap.size, 0, none⟩) m c')) w') : wpList Tryz.prog ops Q (o :: rest) a w :=
  wpList_plain hgd fun _ hK => by
    obtain ⟨c', w', hr, h2, h3⟩ := run_appB0 w o.type f2 ad m c2 hm hnews hb
    unfold Oper.wp execOp
    simp only [ho, resolve, invoke, builtin, Sem.run_bind, Sem.run_pure, Result.andThen_ok, List.map_toArray, List.map_cons, List.map_nil, hs, hx, hr]
    exact hK _ _ (h c' w' h2 h3)
end
/-- an append onto a row apart -/
theorem OutB.app {B : Nat} {w0 : World} {L K : Nat} {nl : Nat → Bool} {gr nr cr : Nat → Nat} {x G k : Nat} {h c : Nat → Nat} {w w' : World} (o : OutB B w0 L K nl gr nr cr x G k h c w) (a : ApB B L K nl gr nr) (hk : k < K) {hc cc n m g' c' : Nat} {F : Nat → Int} (hn : nr k ≤ n + m) (hpos : (hc = gr k ∧ cc = cr k ∧ nl k = false) ∨ (G < hc ∧ ∀ j, j < k → h j ≠ hc))
    (hR : RowB w' g' (n + m) c' F) (hF : ∀ t, t < nr k → F t = mb k t) (hcase : (g' = hc ∧ c' = cc ∧ n + m ≤ cc ∧ w.grownBy w' (some hc)) ∨ (g' = w.heap.size ∧ cc < n + m ∧ w.grownBy w' none)) : OutB B w0 L K nl gr nr cr x G k h c w' ∧ ((g' = gr k ∧ c' = cr k ∧ nl k = false) ∨ (G < g' ∧ ∀ j, j < k → h j ≠ g')) := by
  have hsz := o.size
  rcases hcase with ⟨rfl, rfl, h1, h2⟩ | ⟨rfl, h1, h2⟩
  · refine ⟨o.grown a hk h2 ?_, hpos⟩
    rcases hpos with ⟨rfl, rfl, hnl⟩ | hp
    · exact .inl ⟨rfl, hnl, (hR.cut (by omega)).congr hF⟩
    · exact .inr hp
  · refine ⟨o.after ?_, .inr ⟨hsz, fun j hj => ?_⟩⟩
    · exact (Below.refl _ _).grown h2 (Nat.le_refl _) (fun k h => by cases h)
    · have := (o.row j hj).lt
      omega
theorem OutB.app0 {B : Nat} {w0 : World} {L K : Nat} {nl : Nat → Bool} {gr nr cr : Nat → Nat} {x G k : Nat} {h c : Nat → Nat} {w w' : World} (o : OutB B w0 L K nl gr nr cr x G k h c w) (hgr : w.grownBy w' none) : OutB B w0 L K nl gr nr cr x G k h c w' ∧ (G < w.heap.size ∧ ∀ j, j < k → h j ≠ w.heap.size) :=
  ⟨o.after ((Below.refl _ _).grown hgr (Nat.le_refl _) (fun k h => by cases h)), o.size, fun j hj => by have := (o.row j hj).lt; omega⟩
end Go.Proofs.YtiimojhdpmkeoaaGreat
