/- The walk of VectorNumbers. -/
import Derived.Test.YtofgkfdfondajaaGreatVj
import Derived.Test.YtofgkfdfondajaaGreatTe
namespace Go.Proofs.YtofgkfdfondajaaGreat
open Go.RowKit
/-- n numbers lie in block a -/
def IntsAt (w : World) (a n : Nat) (f : Nat → Int) : Prop := a < w.heap.size ∧ ∀ i, i < n → w.cell? ⟨a, i, none⟩ = some (.int .i64 (f i))
theorem IntsAt.below {w w' : World} {a n : Nat} {f : Nat → Int} (h : IntsAt w a n f) (hb : Below w.heap.size w w') : IntsAt w' a n f := ⟨Nat.lt_of_lt_of_le h.1 hb.size, fun i hi => (hb.cell (p := ⟨a, i, none⟩) h.1).trans (h.2 i hi)⟩
theorem ints_of {w : World} {a : Nat} {t : TypeId} {xs : List Int} (h : Blk w a t (dotL xs).toArray) : IntsAt w a xs.length (lD xs) := ⟨h.lt, fun i hi => by
  rw [h.cell i]
  simp [dotL, lD, hi]⟩
/-- the six rows of a round -/
def RowsN (w : World) (R : Nat) (P : Nat → Option Addr) (N C : Nat → Nat) (L : Nat → List Int) : Prop := R < w.heap.size ∧ ∀ i, i < 6 → w.cell? ⟨R, i, none⟩ = some (.slice (P i) (N i) (C i)) ∧ DotsL w (P i) (N i) (L i) ∧ N i ≤ 2
theorem RowsN.below {w w' : World} {R : Nat} {P : Nat → Option Addr} {N C : Nat → Nat} {L : Nat → List Int} (h : RowsN w R P N C L) (hb : Below w.heap.size w w') : RowsN w' R P N C L := ⟨Nat.lt_of_lt_of_le h.1 hb.size, fun i hi => ⟨(hb.cell (p := ⟨R, i, none⟩) h.1).trans (h.2 i hi).1, (h.2 i hi).2.1.below hb, (h.2 i hi).2.2⟩⟩
def sel6 {α : Type} (a b c d e f : α) : Nat → α | 0 => a | 1 => b | 2 => c | 3 => d | 4 => e | _ => f
theorem rowsN_of {w : World} {R g1 g2 g3 g4 g5 : Nat} {x y : Int} (hR : Blk w R 23 #[.slice none 0 0, .slice (some ⟨g1, 0, none⟩) 1 1, .slice (some ⟨g2, 0, none⟩) 1 1, .slice (some ⟨g3, 0, none⟩) 2 2, .slice (some ⟨g4, 0, none⟩) 2 2, .slice (some ⟨g5, 0, none⟩) 2 2])
    (h1 : Blk w g1 35 #[.int .i64 x, .int .i64 y]) (h2 : Blk w g2 35 #[.int .i64 2, .int .i64 2]) (h3 : Blk w g3 35 #[.int .i64 x, .int .i64 y, .int .i64 2, .int .i64 2]) (h4 : Blk w g4 35 #[.int .i64 2, .int .i64 2, .int .i64 x, .int .i64 y]) (h5 : Blk w g5 35 #[.int .i64 x, .int .i64 y, .int .i64 x, .int .i64 y]) :
    ∃ P N C L, RowsN w R P N C L := by
  refine ⟨sel6 none (some ⟨g1, 0, none⟩) (some ⟨g2, 0, none⟩) (some ⟨g3, 0, none⟩) (some ⟨g4, 0, none⟩) (some ⟨g5, 0, none⟩), sel6 0 1 1 2 2 2, sel6 0 1 1 2 2 2, sel6 [] [x, y] [2, 2] [x, y, 2, 2] [2, 2, x, y] [x, y, x, y], hR.lt, fun i hi => ?_⟩
  have h : i = 0 ∨ i = 1 ∨ i = 2 ∨ i = 3 ∨ i = 4 ∨ i = 5 := by omega
  rcases h with rfl | rfl | rfl | rfl | rfl | rfl
  · exact ⟨hR.cell 0, ⟨rfl, fun h => absurd h (by decide)⟩, by decide⟩
  · exact ⟨hR.cell 1, dots_blk 1 [x, y] h1 rfl, by decide⟩
  · exact ⟨hR.cell 2, dots_blk 1 [2, 2] h2 rfl, by decide⟩
  · exact ⟨hR.cell 3, dots_blk 2 [x, y, 2, 2] h3 rfl, by decide⟩
  · exact ⟨hR.cell 4, dots_blk 2 [2, 2, x, y] h4 rfl, by decide⟩
  · exact ⟨hR.cell 5, dots_blk 2 [x, y, x, y] h5 rfl, by decide⟩
set_option maxRecDepth 20000 in
set_option maxHeartbeats 8000000 in
theorem vectorNumbers_c (w : World) : Calls Tryz.prog 4 #[] w (AwP w) := by
  go_enter Tryz.func4, Tryz.ntmps4
  go_wp2_with fail
  refine (awake_c w).mono ?_
  rintro e w1 ⟨rfl, hb⟩
  go_wp2
  refine at_world (fun W0 hW => ?_)
  have hA : Blk W0 w1.heap.size 3 (dotL [-9223372036854775808, -1, 0, 1, 2, 7, 8, 9, 9223372036854775807]).toArray := by rw [hW]; exact (Blk.new w1 _ _).alloc _
  have hB : Blk W0 (w1.heap.size + 1) 3 (dotL [-9223372036854775808, -1, 0, 1, 2, 1073741823, 1073741824, 1073741825, 9223372036854775807]).toArray := by rw [hW]; exact blk_at (by simp) (Blk.new (w1.alloc _) _ _)
  have hb0 : Below w.heap.size w W0 := by rw [hW]; exact (hb.alloc hb.size _).alloc (by simp; have := hb.size; omega) _
  clear hW hb
  obtain ⟨cl, hcl⟩ : ∃ f, f = lD [-9223372036854775808, -1, 0, 1, 2, 7, 8, 9, 9223372036854775807] := ⟨_, rfl⟩
  obtain ⟨nu, hnu⟩ : ∃ f, f = lD [-9223372036854775808, -1, 0, 1, 2, 1073741823, 1073741824, 1073741825, 9223372036854775807] := ⟨_, rfl⟩
  have hA2 : IntsAt W0 w1.heap.size 9 cl := by rw [hcl]; exact ints_of hA
  have hB2 : IntsAt W0 (w1.heap.size + 1) 9 nu := by rw [hnu]; exact ints_of hB
  clear hA hB hcl hnu
  generalize w1.heap.size + 1 = gb at *
  generalize w1.heap.size = ga at *
  replace hA2 := Lib.hid hA2
  replace hB2 := Lib.hid hB2
  have hsz0 := hb0.size
  go_loopw [3] (fun i wr => ∃ k : Nat, k ≤ 9 ∧ i = .int .i64 k ∧ Below W0.heap.size W0 wr) (fun i _ => (9 - intOf i).toNat)
  case atStart => exact ⟨0, by decide, rfl, Below.refl _ _⟩
  case round =>
    obtain ⟨i, hi, hi', hb⟩ := hrel
    subst hi'
    by_cases h9 : i = 9
    · subst h9
      have hbz := hb0.trans (hb.mono hsz0)
      clear hi
      go_wp2
      go_returns
      exact ⟨rfl, hbz⟩
    · have hi0 : (0 : Int) ≤ (i : Int) := by omega
      have hi1 : (i : Int) < 9 := by omega
      have hi2 : i < 9 := by omega
      clear hi h9
      go_wp2
      go_loopw [4] (fun j wr => ∃ k : Nat, k ≤ 9 ∧ j = .int .i64 k ∧ Below W0.heap.size W0 wr) (fun j _ => (9 - intOf j).toNat)
      case atStart => exact ⟨0, by decide, rfl, hb⟩
      case round =>
        clear hb
        rename_i wrx _
        obtain ⟨j, hj, hj', hb⟩ := hrel
        subst hj'
        by_cases h9 : j = 9
        · subst h9
          clear hj
          go_wp2
          exact ⟨⟨i + 1, by omega, by rw [Int.natCast_add]; rfl, hb⟩, by simp [intOf]; omega⟩
        · have hj0 : (0 : Int) ≤ (j : Int) := by omega
          have hj1 : (j : Int) < 9 := by omega
          have hj2 : j < 9 := by omega
          clear hj h9
          have c0 : wr.cell? ⟨ga, i, none⟩ = some (.int .i64 (cl i)) := (hb.cell (p := ⟨ga, i, none⟩) hA2.out.1).trans (hA2.out.2 i hi2)
          have c1 : wr.cell? ⟨gb, j, none⟩ = some (.int .i64 (nu j)) := (hb.cell (p := ⟨gb, j, none⟩) hB2.out.1).trans (hB2.out.2 j hj2)
          have lga : ga < wr.heap.size := Nat.lt_of_lt_of_le hA2.out.1 hb.size
          have lgb : gb < wr.heap.size := Nat.lt_of_lt_of_le hB2.out.1 hb.size
          generalize cl i = x at *
          generalize nu j = y at *
          go_wp2
          go_region
          go_wp2
          refine at_world (fun W1 hW => ?_)
          have bG : Blk W1 (wr.heap.size) 35 #[.int .i64 x, .int .i64 y] := by rw [hW]; exact (((((((blk_at (by simp) (Blk.new wr _ _) : Blk (wr.alloc _) (wr.heap.size) 35 #[.int .i64 x, .int .i64 y]).alloc _).alloc _).alloc _).alloc _).alloc _).alloc _).drew
          have b1 : Blk W1 (wr.heap.size + 1) 35 #[.int .i64 x, .int .i64 y] := by rw [hW]; exact ((((((blk_at (by simp) (Blk.new (wr.alloc _) _ _) : Blk ((wr.alloc _).alloc _) (wr.heap.size + 1) 35 #[.int .i64 x, .int .i64 y]).alloc _).alloc _).alloc _).alloc _).alloc _).drew
          have b2 : Blk W1 (wr.heap.size + 1 + 1) 35 #[.int .i64 2, .int .i64 2] := by rw [hW]; exact (((((blk_at (by simp) (Blk.new ((wr.alloc _).alloc _) _ _) : Blk (((wr.alloc _).alloc _).alloc _) (wr.heap.size + 1 + 1) 35 #[.int .i64 2, .int .i64 2]).alloc _).alloc _).alloc _).alloc _).drew
          have b3 : Blk W1 (wr.heap.size + 1 + 1 + 1) 35 #[.int .i64 x, .int .i64 y, .int .i64 2, .int .i64 2] := by rw [hW]; exact ((((blk_at (by simp) (Blk.new (((wr.alloc _).alloc _).alloc _) _ _) : Blk ((((wr.alloc _).alloc _).alloc _).alloc _) (wr.heap.size + 1 + 1 + 1) 35 #[.int .i64 x, .int .i64 y, .int .i64 2, .int .i64 2]).alloc _).alloc _).alloc _).drew
          have b4 : Blk W1 (wr.heap.size + 1 + 1 + 1 + 1) 35 #[.int .i64 2, .int .i64 2, .int .i64 x, .int .i64 y] := by rw [hW]; exact (((blk_at (by simp) (Blk.new ((((wr.alloc _).alloc _).alloc _).alloc _) _ _) : Blk (((((wr.alloc _).alloc _).alloc _).alloc _).alloc _) (wr.heap.size + 1 + 1 + 1 + 1) 35 #[.int .i64 2, .int .i64 2, .int .i64 x, .int .i64 y]).alloc _).alloc _).drew
          have b5 : Blk W1 (wr.heap.size + 1 + 1 + 1 + 1 + 1) 35 #[.int .i64 x, .int .i64 y, .int .i64 x, .int .i64 y] := by rw [hW]; exact ((blk_at (by simp) (Blk.new (((((wr.alloc _).alloc _).alloc _).alloc _).alloc _) _ _) : Blk ((((((wr.alloc _).alloc _).alloc _).alloc _).alloc _).alloc _) (wr.heap.size + 1 + 1 + 1 + 1 + 1) 35 #[.int .i64 x, .int .i64 y, .int .i64 x, .int .i64 y]).alloc _).drew
          have bR : Blk W1 (wr.heap.size + 1 + 1 + 1 + 1 + 1 + 1) 23 #[.slice none 0 0, .slice (some ⟨wr.heap.size + 1, 0, none⟩) 1 1, .slice (some ⟨wr.heap.size + 1 + 1, 0, none⟩) 1 1, .slice (some ⟨wr.heap.size + 1 + 1 + 1, 0, none⟩) 2 2, .slice (some ⟨wr.heap.size + 1 + 1 + 1 + 1, 0, none⟩) 2 2, .slice (some ⟨wr.heap.size + 1 + 1 + 1 + 1 + 1, 0, none⟩) 2 2] := by rw [hW]; exact (blk_at (by simp) (Blk.new ((((((wr.alloc _).alloc _).alloc _).alloc _).alloc _).alloc _) _ _) : Blk (((((((wr.alloc _).alloc _).alloc _).alloc _).alloc _).alloc _).alloc _) (wr.heap.size + 1 + 1 + 1 + 1 + 1 + 1) 23 #[.slice none 0 0, .slice (some ⟨wr.heap.size + 1, 0, none⟩) 1 1, .slice (some ⟨wr.heap.size + 1 + 1, 0, none⟩) 1 1, .slice (some ⟨wr.heap.size + 1 + 1 + 1, 0, none⟩) 2 2, .slice (some ⟨wr.heap.size + 1 + 1 + 1 + 1, 0, none⟩) 2 2, .slice (some ⟨wr.heap.size + 1 + 1 + 1 + 1 + 1, 0, none⟩) 2 2]).drew
          have hb1 : Below wr.heap.size wr W1 := by rw [hW]; exact (((((((Below.refl wr.heap.size wr).alloc (Nat.le_refl _) _).alloc (by simp) _).alloc (by simp; omega) _).alloc (by simp; omega) _).alloc (by simp; omega) _).alloc (by simp; omega) _).alloc (by simp; omega) _ |>.drew
          obtain ⟨P, N, C, L, hRN⟩ := rowsN_of bR b1 b2 b3 b4 b5
          have hbW := hb.trans (hb1.mono hb.size)
          clear hW b1 b2 b3 b4 b5 bR hb hb1 c0 c1 lga lgb
          generalize wr.heap.size + 1 + 1 + 1 + 1 + 1 + 1 = gR at *
          generalize wr.heap.size = gG at *
          replace hRN := Lib.hid hRN
          have hszW := hbW.size
          go_loopw [7] (fun v wr => ∃ k : Nat, k ≤ 6 ∧ v = .int .i64 k ∧ Below W1.heap.size W1 wr) (fun v _ => (6 - intOf v).toNat)
          case atStart => exact ⟨0, by decide, rfl, Below.refl _ _⟩
          case round =>
            rename_i wry _
            obtain ⟨n, hn, hn', hb⟩ := hrel
            subst hn'
            by_cases h6 : n = 6
            · subst h6
              have hbz := hbW.trans (hb.mono hszW)
              clear hn
              go_wp2
              exact ⟨⟨j + 1, by omega, by rw [Int.natCast_add]; rfl, hbz⟩, by simp [intOf]; omega⟩
            · have hn0 : (0 : Int) ≤ (n : Int) := by omega
              have hn1 : (n : Int) < 6 := by omega
              have hn2 : n < 6 := by omega
              have hn3 : n ≤ 6 := by omega
              have hn4 : (n : Int) ≤ 6 := by omega
              have hn5 : ¬ 6 = n := by omega
              have hRw := hRN.out.below hb
              have hGw := bG.below hb
              obtain ⟨r0, r1, r2⟩ := hRw.2 n hn2
              obtain ⟨s0, s1, s2⟩ := hRw.2 1 (by decide)
              have lR := hRw.1
              have lG := hGw.lt
              have hS : ∀ w', Below wr.heap.size wr w' → (w'.cell? ⟨gR, n, none⟩ = some (.slice (P n) (N n) (C n)) ∧ w'.cell? ⟨gR, 1, none⟩ = some (.slice (P 1) (N 1) (C 1)) ∧ w'.cell? ⟨gG, 0, none⟩ = some (.int .i64 x) ∧ w'.cell? ⟨gG, 1, none⟩ = some (.int .i64 y)) := fun w' hb => ⟨((hb.cell (p := ⟨gR, n, none⟩) lR).trans r0), ((hb.cell (p := ⟨gR, 1, none⟩) lR).trans s0), (hGw.below hb).cell 0, (hGw.below hb).cell 1⟩
              have q1 := fun w' hb2 => vectorTells_c (P n) (N n) (C n) (L n) (P 1) (N 1) (C 1) (L 1) x y w' (r1.below (w := wr) (w' := w') hb2) (s1.below hb2)
              have q2 := fun w' hb2 => vectorTells_c (P 1) (N 1) (C 1) (L 1) (P n) (N n) (C n) (L n) 2 2 w' (s1.below (w := wr) (w' := w') hb2) (r1.below hb2)
              have q3 := fun w' (hb2 : Below wr.heap.size wr w') => vectorJoins_c (some ⟨gR, n, none⟩) (6 - n) (6 - n) (fun i => P (n + i)) (fun i => N (n + i)) (fun i => C (n + i)) (fun i => L (n + i)) (P n) (N n) (C n) (L n) (some ⟨w'.heap.size, 0, none⟩) 2 2 [x, y, 8, 1] (w'.alloc (.cells #[.int .i64 x, .int .i64 y, .int .i64 8, .int .i64 1] 35))
                (fun _ => ⟨gR, n, rfl, Nat.lt_of_lt_of_le lR (hb2.alloc hb2.size _).size, fun i hi => ((hRw.below (hb2.alloc hb2.size _)).2 (n + i) (by omega)).1⟩) (fun i hi => ((hRw.below (hb2.alloc hb2.size _)).2 (n + i) (by omega)).2.1) (r1.below (hb2.alloc hb2.size _)) (dots_blk 2 [x, y, 8, 1] (Blk.new w' _ _) rfl)
              have hbc : Below wr.heap.size wr wr.drew := (Below.refl _ _).drew
              replace q1 := Lib.hid q1
              replace q2 := Lib.hid q2
              replace q3 := Lib.hid q3
              replace hS := Lib.hid hS
              have hbq := hb
              have hsw := hb.size
              clear hRw hGw r0 r1 r2 s0 s1 s2 hn h6
              go_wp2
              go_region_held3 (fun w' => w'.cell? ⟨gR, n, none⟩ = some (.slice (P n) (N n) (C n)) ∧ w'.cell? ⟨gR, 1, none⟩ = some (.slice (P 1) (N 1) (C 1)) ∧ w'.cell? ⟨gG, 0, none⟩ = some (.int .i64 x) ∧ w'.cell? ⟨gG, 1, none⟩ = some (.int .i64 y)) (first | exact hS.out _ hbc | exact hS.out _ (hbc.alloc hbc.size _)) (first
                | (go_at_call 15; refine (q1.out _ hbc).mono ?_; rintro e w2 ⟨rfl, hb2⟩; replace hbc := hbc.trans (hb2.mono hbc.size); clear hb2 q1)
                | (go_at_call 15; refine (q2.out _ hbc).mono ?_; rintro e w2 ⟨rfl, hb2⟩; replace hbc := hbc.trans (hb2.mono hbc.size); clear hb2 q2)
                | (go_at_call 3; refine (q3.out _ hbc).mono ?_; rintro e w2 ⟨rfl, hb2⟩; replace hbc := (hbc.alloc hbc.size (.cells #[.int .i64 x, .int .i64 y, .int .i64 8, .int .i64 1] 35)).trans (hb2.mono (hbc.alloc hbc.size _).size); clear hb2 q3))
              have hbz := hb.trans (hbc.mono hb.size)
              clear hbc hb hbq hsw hS
              go_wp2
              exact ⟨⟨n + 1, by omega, by rw [Int.natCast_add]; rfl, hbz⟩, by simp [intOf]; omega⟩
end Go.Proofs.YtofgkfdfondajaaGreat
