/- slices.Insert of one dot into a row of dots of one's own. -/
import Derived.Test.YtofgkfdfondajaaGreatWp
import Derived.Deep.AppendSrc
import Derived.Laws.AppendOwn
namespace Go.Proofs.YtofgkfdfondajaaGreat
open Go.RowKit
theorem blk_mid {g : Nat} {t : TypeId} : ∀ (M : List Value) (A C : List Value) (w : World), Blk w g t (A ++ (M ++ C)).toArray → ∀ us : List Value, us.length = M.length → Blk (w.setCells g A.length us) g t (A ++ (us ++ C)).toArray
  | [], A, C, w, h, [], _ => h
  | v :: M, A, C, w, h, u :: us, hl => by
    have h1 := h.set_ A.length u
    have e : ((A ++ (v :: M ++ C)).toArray.setIfInBounds A.length u) = ((A ++ [u]) ++ (M ++ C)).toArray := by simp
    rw [e] at h1
    have := blk_mid M (A ++ [u]) C _ h1 us (by simpa using hl)
    simp only [List.length_append, List.length_cons, List.length_nil, List.append_assoc, List.cons_append, List.nil_append] at this
    simpa [World.setCells] using this
/-- a row of one's own, told by its block -/
theorem own_blk {w : World} {B : Nat} {e : TypeId} {size g n cap : Nat} {xs : List Value} (h : w.ownsRow B e size (.slice (some ⟨g, 0, none⟩) n cap) n xs) : ∃ C : List Value, xs.length = n * size ∧ B ≤ g ∧ n ≤ cap ∧ cap ≤ maxLen ∧ xs.length + C.length = cap * size ∧ Blk w g e (xs ++ C).toArray := by
  obtain ⟨hl, ⟨h1, h2⟩ | ⟨g', cap', cur, h1, h2, h3, h4, h5, h6, h7⟩⟩ := h
  · cases h1
  · simp only [Value.slice.injEq, Option.some.injEq, Addr.mk.injEq, and_true, true_and] at h1
    obtain ⟨rfl, rfl⟩ := h1
    refine ⟨cur.toList.drop (n * size), hl, h2, h4, h5, ?_, ?_⟩
    · rw [List.length_drop, hl, Array.length_toList, h6]
      have := Nat.mul_le_mul_right size h4
      omega
    · rw [← h7, List.take_append_drop]
      simpa [Blk] using h3
theorem blk_own {w : World} {B : Nat} {e : TypeId} {size g n cap : Nat} {xs C : List Value} (h : Blk w g e (xs ++ C).toArray) (hl : xs.length = n * size) (hB : B ≤ g) (hn : n ≤ cap) (hc : cap ≤ maxLen) (hs : xs.length + C.length = cap * size) : w.ownsRow B e size (.slice (some ⟨g, 0, none⟩) n cap) n xs :=
  ⟨hl, .inr ⟨g, cap, _, rfl, hB, h, hn, hc, by simpa using hs, by rw [← hl]; simp⟩⟩
def dotL (xs : List Int) : List Value := xs.map (.int .i64 ·)
theorem dotL_len (xs : List Int) : (dotL xs).length = xs.length := by simp [dotL]
theorem dotL_one (xs : List Int) : ∀ u ∈ dotL xs, u.oneCell' = true := fun u hu => by
  obtain ⟨j, _, rfl⟩ := List.mem_map.1 hu
  rfl
theorem dot_info : (Tryz.prog.info? 35).map (fun i => (i.zero, i.size, i.bytes)) = some (some (.agg #[.int .i64 0, .int .i64 0]), 2, 16) := by kernel_rfl
theorem ds_under : Tryz.prog.underlying 23 = some (.slice 35) := by kernel_rfl
theorem dots_under : Tryz.prog.underlying 39 = some (.slice 35) := by kernel_rfl
theorem src1 {w : World} {vb : Nat} {x y : Int} (c : Nat) (hV : Blk w vb 35 #[.int .i64 x, .int .i64 y]) : Src Tryz.prog 2 23 (.slice (some ⟨vb, 0, none⟩) 1 c) 1 (dotL [x, y]) w :=
  Src.ofSlice w ds_under ⟨vb, 0, none⟩ 1 c (dotL [x, y]) rfl (World.news_of_block hV) (dotL_one _)
theorem run_app1 (w : World) (ty : TypeId) {B n vb c : Nat} {v : Value} {ds : List Int} {x y : Int} (hown : w.ownsRow B 35 2 v n (dotL ds)) (hB : B ≤ w.heap.size) (hV : Blk w vb 35 #[.int .i64 x, .int .i64 y]) (hn : n ≤ 1000000) :
    ∃ v' w', (Builtin.append_ #[39, 23] ty #[v, .slice (some ⟨vb, 0, none⟩) 1 c]).run Tryz.prog w = .ok v' w' ∧ w'.ownsRow B 35 2 v' (n + 1) (dotL (ds ++ [x, y])) ∧ w.grownBy w' v.ownBlock ∧ (v'.ownBlock = v.ownBlock ∨ v'.ownBlock = some w.heap.size) := by
  obtain ⟨i, hi, hz, hs, hby⟩ := info_parts dot_info
  have hl : ds.length = n * 2 := by have := hown.1; rwa [dotL_len] at this
  have hcat : dotL ds ++ dotL [x, y] = dotL (ds ++ [x, y]) := by simp [dotL]
  have hsrc : Src Tryz.prog i.size 23 (.slice (some ⟨vb, 0, none⟩) 1 c) 1 (dotL [x, y]) w := by rw [hs]; exact src1 c hV
  have grow : ∀ (base : Option Addr) (cap : Nat), v = .slice base n cap → cap < n + 1 → (Builtin.firstCells i.size n (.slice base n cap)).run Tryz.prog w.drew = .ok (dotL ds).toArray w.drew → ∃ v' w', (Builtin.append_ #[39, 23] ty #[v, .slice (some ⟨vb, 0, none⟩) 1 c]).run Tryz.prog w = .ok v' w' ∧ w'.ownsRow B 35 2 v' (n + 1) (dotL (ds ++ [x, y])) ∧ w.grownBy w' v.ownBlock ∧ (v'.ownBlock = v.ownBlock ∨ v'.ownBlock = some w.heap.size) := fun base cap hv hc hold => by
    subst hv
    have hr := run_append_grow_src w 39 23 ty 35 i _ dots_under hi hz base n cap (dotL ds) hold _ 1 _ hsrc hc (by omega) (growslice_fits hc (by rw [hby]; omega))
    have hge := grownCap_ge w (n + 1) cap 35
    have hmx := grownCap_le_maxLen w (n + 1) cap 35 (by unfold maxLen; omega)
    refine ⟨_, _, hr, ⟨by rw [dotL_len, List.length_append, hl]; simp; omega, .inr ⟨w.heap.size, _, _, rfl, hB, heap_alloc_new w.drew _, hge, hmx, ?_, ?_⟩⟩, ?_, .inr rfl⟩
    · rw [hcat]
      simp [size_zeroCells, Value.cells, dotL_len, hl]
      omega
    · rw [hcat]
      simp only [Array.toList_append]
      rw [List.take_left' (by rw [dotL_len, List.length_append, hl]; simp; omega)]
    · have h1 := World.grownBy_alloc w.drew (.cells (((dotL ds ++ dotL [x, y]).toArray ++ Builtin.zeroCells (Value.agg #[.int .i64 0, .int .i64 0]).cells (grownCap w (n + 1) cap 35 - (n + 1)))) 35) (Value.slice base n cap).ownBlock
      exact ⟨h1.os, h1.tape, h1.output, h1.size, h1.block⟩
  rcases hown.2 with ⟨rfl, rfl⟩ | ⟨g, cap, cur, rfl, h1, h2, h3, h4, h5, h6⟩
  · refine grow none 0 rfl (by omega) ?_
    have : ds = [] := List.eq_nil_of_length_eq_zero (by omega)
    subst this
    exact run_firstCells_none w.drew i.size 0 0 0
  · by_cases hroom : n + 1 ≤ cap
    · obtain ⟨C, a1, a2, a3, a4, a5, a6⟩ := own_blk hown
      have hC : 2 ≤ C.length := by rw [dotL_len, hl] at a5; omega
      match C, hC with
      | u1 :: u2 :: C', _ =>
        have hr := run_append_room_src w 39 23 ty 35 i dots_under hi g 0 n cap _ 1 _ hsrc hroom (fun j hj => by
          have hj2 : j < 2 := by simpa [dotL] using hj
          rw [a6.cell, hs, Array.getElem?_eq_getElem (by simp [dotL_len, hl]; omega)]
          rfl) (fun j hj => a6.frozen _)
        rw [hs, Nat.zero_add] at hr
        have hb := blk_mid [u1, u2] (dotL ds) C' w a6 (dotL [x, y]) rfl
        rw [dotL_len, hl] at hb
        refine ⟨_, _, hr, blk_own (C := C') (by rw [← hcat, List.append_assoc]; exact hb) (by rw [dotL_len, List.length_append, hl]; simp; omega) h1 hroom h4 (by
          simp only [dotL_len, List.length_append, List.length_cons, List.length_nil] at a5 ⊢
          omega), grown_setCells g _ _ w, .inl rfl⟩
    · refine grow (some ⟨g, 0, none⟩) cap rfl (by omega) ?_
      rw [hs]
      exact run_firstCells_some w.drew 2 n ⟨g, 0, none⟩ n cap (dotL ds) (by rw [dotL_len, hl]) (fun j u hu => hown.cells (g := g) rfl j u hu)
end Go.Proofs.YtofgkfdfondajaaGreat
