/- FieldNumbers answers true; no condition. In this text: the walk of FieldGets, its contract; the contracts of FieldReckons and FieldPowers; the walk of FieldNumbers; the lifting. -/
import Derived.Test.YtjejibojcjfleaaGreatGc
import Derived.Test.YtjejibojcjfleaaGreatGr
import Derived.Test.YtjejibojcjfleaaGreatKe
import Derived.Test.YtjejibojcjfleaaGreatQe
import Derived.Test.YtjejibojcjfleaaGreatAw
import Derived.Test.YtjejibojcjfleaaGreatBy
import Derived.Test.YtjejibojcjfleaaGreatN13
import Derived.Below
import Derived.ChangeSame
import Derived.Test.YtjejibojcjfleaaGreatN10
import Derived.Test.YtjejibojcjfleaaGreatN11
import Derived.Test.YtjejibojcjfleaaGreatN14
import Derived.Laws.AppendOwn
import Derived.Deep.RegionHeld3
import Derived.Deep.AppendLies
import Derived.Laws.OwnMore
import Derived.Test.YtjejibojcjfleaaGreatRows
import Derived.ChangeSlices
import Derived.OpenShut
namespace Go.Proofs.YtjejibojcjfleaaGreat
open Go.RowKit
set_option maxRecDepth 20000 in
set_option maxRecDepth 20000 in
set_option maxHeartbeats 2000000 in
theorem gets_long (p : Option Addr) (n c : Nat) (hn : 100 < n) (w : World) : Calls Tryz.prog 3 #[.slice p n c] w (PostV (.bool true) w) := by
  have haw := awake_c
  replace haw := Lib.hid haw
  have hn2 : (100 : Int) < (n : Int) := by omega
  go_enter Tryz.func3, Tryz.ntmps3
  go_wp2_with fail
  refine (haw.out _).mono ?_
  rintro e w1 ⟨rfl, hb⟩
  go_wp2
  go_returns
  exact ⟨rfl, hb⟩
set_option maxRecDepth 20000 in
set_option maxRecDepth 20000 in
set_option maxHeartbeats 4000000 in
theorem gets_F (p : Option Addr) (n c : Nat) (b : Nat → Int) (hn : n ≤ 100) (N : Nat → Int) (w : World)
    (hL : Calls Tryz.prog 6 #[.slice p n c] w (PostLent n b w))
    (hG : ∀ w' g, RowB w' g (n + 12) (n + 12) (lentF n b) → Calls Tryz.prog 7 #[.slice (some ⟨g, 0, none⟩) n (n + 12)] w' fun e w'' => e = .returned (.tuple #[.agg #[.int .u64 0, .int .u64 0, .int .u64 0, .int .u64 0, .int .u64 0], .bool false]) ∧ Below w'.heap.size w' w'')
    (hD : ∀ w', Below w.heap.size w w' → Calls Tryz.prog 8 #[.slice p n c] w' (PostR2 N false w'))
    (hK : ∀ w' g, RowB w' g (n + 12) (n + 12) (lentF n b) → Below w.heap.size w w' → Calls Tryz.prog 9 #[.slice (some ⟨g, 0, none⟩) n (n + 12), .slice p n c] w' fun e w'' => e = .returned (.bool true) ∧ Below w'.heap.size w' w'') :
    Calls Tryz.prog 3 #[.slice p n c] w (PostV (.bool true) w) := by
  have haw := awake_c
  replace haw := Lib.hid haw
  replace hL := Lib.hid hL
  replace hG := Lib.hid hG
  replace hD := Lib.hid hD
  replace hK := Lib.hid hK
  have hn2 : (n : Int) ≤ 100 := by omega
  go_enter Tryz.func3, Tryz.ntmps3
  go_wp2_with fail
  refine hL.out.mono ?_
  rintro e w1 ⟨gi, rfl, hgi, hRi, hb1⟩
  go_wp2_with fail
  refine (hG.out w1 gi hRi).mono ?_
  rintro e w2 ⟨rfl, hb2⟩
  replace hRi := hRi.below hb2
  replace hb1 := hb1.trans (hb2.mono hb1.size)
  clear hb2 hL hG
  go_wp2_with fail
  refine calls_at (fun W0 hW => ?_)
  have hE : Blk W0 w2.heap.size 27 #[.int .u64 0, .int .u64 0, .int .u64 0, .int .u64 0, .int .u64 0] := by rw [hW]; exact Blk.new _ _ _
  replace hRi : RowB W0 gi (n + 12) (n + 12) (lentF n b) := by rw [hW]; exact hRi.below ((Below.refl _ _).alloc (Nat.le_refl _) _)
  replace hb1 : Below w.heap.size w W0 := by rw [hW]; exact hb1.alloc hb1.size _
  clear hW
  generalize w2.heap.size = ge at *
  refine (hD.out W0 hb1).mono ?_
  rintro e w3 ⟨rfl, hb3⟩
  replace hRi := hRi.below hb3
  replace hE := hE.below hb3
  replace hb1 := hb1.trans (hb3.mono hb1.size)
  clear hb3 hD
  have hRi' := hRi.below ((Below.refl w3.heap.size w3).alloc (Nat.le_refl _) (Obj.cells (av fun _ => 0) 31))
  have hE' := hE.alloc (Obj.cells (av fun _ => 0) 31)
  have hb1' := hb1.alloc hb1.size (Obj.cells (av fun _ => 0) 31)
  have hilt := hRi.lt
  have helt := hE.lt
  go_upto_region 6 with (refine stN (old := fun _ => 0) rfl rfl rfl rfl (Blk.new _ _ _) ?_; intro w4 hN4 hgr hsz)
  have hne : gi ≠ w3.heap.size := by omega
  have hne2 : ge ≠ w3.heap.size := by omega
  have hR4 := hRi'.grown hgr (by simpa using hne)
  have hE4 := hE'.grown hgr (by simpa using hne2)
  have hb4 := hb1'.grown hgr hb1'.size (fun k h => by injection h with h; have := hb1.size; omega)
  clear hRi hE hb1 hRi' hE' hb1' hgr hsz hilt helt hne hne2 hN4
  replace hE4 := Lib.hid hE4
  go_wp2_with fail
  refine (hK.out w4 gi hR4 hb4).mono ?_
  rintro e w5 ⟨rfl, hb5⟩
  replace hE4 := hE4.out.below hb5
  replace hb4 := hb4.trans (hb5.mono hb4.size)
  clear hb5 hR4 hK
  obtain ⟨a0, a1, a2, a3, a4⟩ := blk5 hE4
  have heq : ∀ w, (binOp .eql 27 (.agg #[.int .u64 0, .int .u64 0, .int .u64 0, .int .u64 0, .int .u64 0]) (.agg #[.int .u64 0, .int .u64 0, .int .u64 0, .int .u64 0, .int .u64 0])).run Tryz.prog w = .ok (.bool true) w := fun w => (run_eql_E ⟨0, 0, 0, 0, 0⟩ ⟨0, 0, 0, 0, 0⟩ w).trans (by rw [show eqE ⟨0, 0, 0, 0, 0⟩ ⟨0, 0, 0, 0, 0⟩ = true from rfl])
  clear hE4
  go_wp2_with fail
  refine (haw.out _).mono ?_
  rintro e w6 ⟨rfl, hb6⟩
  go_wp2
  go_returns
  exact ⟨rfl, hb4.trans (hb6.mono hb4.size)⟩
theorem rowB_byV {w : World} {g : Nat} {P : Nat → Int} (h : Blk w g 5 (byV 32 P)) : RowB w g 32 32 P := ⟨_, h, Nat.le_refl _, by unfold maxLen; omega, rfl, rfl⟩
set_option maxRecDepth 20000 in
set_option maxRecDepth 20000 in
set_option maxHeartbeats 4000000 in
theorem gets_T (p : Option Addr) (c : Nat) (b : Nat → Int) (e : Fe.E) (N P : Nat → Int) (w : World)
    (hL : Calls Tryz.prog 6 #[.slice p 32 c] w (PostLent 32 b w))
    (hG : ∀ w' g, RowB w' g (32 + 12) (32 + 12) (lentF 32 b) → Calls Tryz.prog 7 #[.slice (some ⟨g, 0, none⟩) 32 (32 + 12)] w' fun e2 w'' => e2 = .returned (.tuple #[.agg #[.int .u64 e.a0, .int .u64 e.a1, .int .u64 e.a2, .int .u64 e.a3, .int .u64 e.a4], .bool true]) ∧ Below w'.heap.size w' w'')
    (hD : ∀ w', Below w.heap.size w w' → Calls Tryz.prog 8 #[.slice p 32 c] w' (PostR2 N true w'))
    (hK : ∀ w' g, RowB w' g (32 + 12) (32 + 12) (lentF 32 b) → Below w.heap.size w w' → Calls Tryz.prog 9 #[.slice (some ⟨g, 0, none⟩) 32 (32 + 12), .slice p 32 c] w' fun e w'' => e = .returned (.bool true) ∧ Below w'.heap.size w' w'')
    (hI : ∀ w', Calls Tryz.prog 10 #[.agg #[.int .u64 e.a0, .int .u64 e.a1, .int .u64 e.a2, .int .u64 e.a3, .int .u64 e.a4], .agg (av N)] w' (PostV (.bool true) w'))
    (hP : ∀ w', Calls Tryz.prog 12 #[.agg #[.int .u64 e.a0, .int .u64 e.a1, .int .u64 e.a2, .int .u64 e.a3, .int .u64 e.a4]] w' (PostB P w'))
    (hS : ∀ w' g, Blk w' g 5 (byV 32 P) → Below w.heap.size w w' → Calls Tryz.prog 11 #[.slice (some ⟨g, 0, none⟩) 32 32, .slice p 32 c] w' (PostV (.bool true) w')) :
    Calls Tryz.prog 3 #[.slice p 32 c] w (PostV (.bool true) w) := by
  have haw := awake_c
  replace haw := Lib.hid haw
  replace hL := Lib.hid hL
  replace hG := Lib.hid hG
  replace hD := Lib.hid hD
  replace hK := Lib.hid hK
  replace hI := Lib.hid hI
  replace hP := Lib.hid hP
  replace hS := Lib.hid hS
  go_enter Tryz.func3, Tryz.ntmps3
  go_wp2_with fail
  refine hL.out.mono ?_
  rintro e2 w1 ⟨gi, rfl, hgi, hRi, hb1⟩
  go_wp2_with fail
  refine (hG.out w1 gi hRi).mono ?_
  rintro e2 w2 ⟨rfl, hb2⟩
  replace hRi := hRi.below hb2
  replace hb1 := hb1.trans (hb2.mono hb1.size)
  clear hb2 hL hG
  go_wp2_with fail
  refine calls_at (fun W0 hW => ?_)
  have hE : Blk W0 w2.heap.size 27 #[.int .u64 e.a0, .int .u64 e.a1, .int .u64 e.a2, .int .u64 e.a3, .int .u64 e.a4] := by rw [hW]; exact Blk.new _ _ _
  replace hRi : RowB W0 gi (32 + 12) (32 + 12) (lentF 32 b) := by rw [hW]; exact hRi.below ((Below.refl _ _).alloc (Nat.le_refl _) _)
  replace hb1 : Below w.heap.size w W0 := by rw [hW]; exact hb1.alloc hb1.size _
  clear hW
  generalize w2.heap.size = ge at *
  refine (hD.out W0 hb1).mono ?_
  rintro e2 w3 ⟨rfl, hb3⟩
  replace hRi := hRi.below hb3
  replace hE := hE.below hb3
  replace hb1 := hb1.trans (hb3.mono hb1.size)
  clear hb3 hD
  have hRi' := hRi.below ((Below.refl w3.heap.size w3).alloc (Nat.le_refl _) (Obj.cells (av fun _ => 0) 31))
  have hE' := hE.alloc (Obj.cells (av fun _ => 0) 31)
  have hb1' := hb1.alloc hb1.size (Obj.cells (av fun _ => 0) 31)
  have hilt := hRi.lt
  have helt := hE.lt
  go_upto_region 6 with (refine stN (old := fun _ => 0) rfl rfl rfl rfl (Blk.new _ _ _) ?_; intro w4 hN4 hgr hsz)
  have hne : gi ≠ w3.heap.size := by omega
  have hne2 : ge ≠ w3.heap.size := by omega
  have hR4 := hRi'.grown hgr (by simpa using hne)
  have hE4 := hE'.grown hgr (by simpa using hne2)
  have hb4 := hb1'.grown hgr hb1'.size (fun k h => by injection h with h; have := hb1.size; omega)
  clear hRi hE hb1 hRi' hE' hb1' hgr hsz hilt helt hne hne2
  replace hE4 := Lib.hid hE4
  replace hN4 := Lib.hid hN4
  go_wp2_with fail
  refine (hK.out w4 gi hR4 hb4).mono ?_
  rintro e2 w5 ⟨rfl, hb5⟩
  replace hE4 := hE4.out.below hb5
  replace hN4 := hN4.out.below hb5
  replace hb4 := hb4.trans (hb5.mono hb4.size)
  clear hb5 hR4 hK
  obtain ⟨a0, a1, a2, a3, a4⟩ := blk5 hE4
  generalize w3.heap.size = gn at *
  have hN5 := hN4
  obtain ⟨n0, n1, n2, n3, n4, n5, n6, n7, n8, n9, n10, n11, n12, n13, n14, n15⟩ := blk16 hN5
  clear hN5 hN4
  go_upto_region 10 with (fail)
  go_region_with (first
    | (refine (hI.out _).mono ?_; rintro e2 w6 ⟨rfl, hb6⟩; have hE6 : Blk w6 ge 27 #[.int .u64 e.a0, .int .u64 e.a1, .int .u64 e.a2, .int .u64 e.a3, .int .u64 e.a4] := (fun h => Blk.below h hb6) hE4; have hbb6 : Below w.heap.size w w6 := (hb4.drew).trans (hb6.mono hb4.size); obtain ⟨x0, x1, x2, x3, x4⟩ := blk5 hE6; clear hE4 hb6)
    | (refine (hP.out _).mono ?_; rintro e2 w7 ⟨g7, hg7, rfl, hB7, hb7⟩; have hE7 : Blk w7 ge 27 #[.int .u64 e.a0, .int .u64 e.a1, .int .u64 e.a2, .int .u64 e.a3, .int .u64 e.a4] := (fun h => Blk.below h hb7) hE6; have hbb7 : Below w.heap.size w w7 := hbb6.trans (hb7.mono hbb6.size); clear hE6 hb7 hg7)
    | (refine (hS.out w7 g7 hB7 hbb7).mono ?_; rintro e2 w8 ⟨rfl, hb8⟩; have hE8 : Blk w8 ge 27 #[.int .u64 e.a0, .int .u64 e.a1, .int .u64 e.a2, .int .u64 e.a3, .int .u64 e.a4] := (fun h => Blk.below h hb8) hE7; have hbb8 : Below w.heap.size w w8 := hbb7.trans (hb8.mono hbb7.size); obtain ⟨y0, y1, y2, y3, y4⟩ := blk5 hE8; clear hE7 hb8)
    | (refine (hP.out _).mono ?_; rintro e2 w9 ⟨g9, hg9, rfl, hB9, hb9⟩; have hE9 : Blk w9 ge 27 #[.int .u64 e.a0, .int .u64 e.a1, .int .u64 e.a2, .int .u64 e.a3, .int .u64 e.a4] := (fun h => Blk.below h hb9) hE8; have hbb9 : Below w.heap.size w w9 := hbb8.trans (hb9.mono hbb8.size); have hl9 : w.heap.size ≤ g9 := Nat.le_trans hbb8.size hg9; have hs9 := hB9.lt; obtain ⟨z0, z1, z2, z3, z4⟩ := blk5 hE9; clear hE8 hb9)
    | (refine (hP.out _).mono ?_; rintro e2 w10 ⟨g10, hg10, rfl, hB10, hb10⟩; have hE10 : Blk w10 ge 27 #[.int .u64 e.a0, .int .u64 e.a1, .int .u64 e.a2, .int .u64 e.a3, .int .u64 e.a4] := (fun h => Blk.below h hb10) hE9; have hB9' : Blk w10 g9 5 (byV 32 P) := (fun h => Blk.below h hb10) hB9; have hbb10 : Below w.heap.size w w10 := hbb9.trans (hb10.mono hbb9.size); have hl10 : w.heap.size ≤ g10 := Nat.le_trans hbb9.size hg10; have hne : g9 ≠ g10 := Nat.ne_of_lt (Nat.lt_of_lt_of_le hs9 hg10); clear hE9 hb10)
    | (refine (apartBytes_c w.heap.size w10.heap.size _ g9 32 32 g10 32 32 P P _ (by simp) ((Blk.new w10 _ _).cell 0) ((Blk.new w10 _ _).cell 1) (rowB_byV (hB9'.alloc _)) (rowB_byV (hB10.alloc _)) hne hl9 hl10 (by omega) (by omega)).mono ?_; rintro e2 w11 ⟨rfl, hb11⟩; have hbb11 : Below w.heap.size w w11 := (hbb10.alloc hbb10.size _).trans hb11)
    | (refine (haw.out _).mono ?_; rintro e2 w12 ⟨rfl, hb12⟩; have hbb12 : Below w.heap.size w w12 := hbb11.trans (hb12.mono hbb11.size)))
  all_goals
    go_wp2
    go_returns
    exact ⟨rfl, hbb12⟩
end Go.Proofs.YtjejibojcjfleaaGreat
namespace Fe
open Go.Proofs.YtjejibojcjfleaaGreat
theorem gl_bit (b : Nat → Int) : ∀ k m, m < k → gl b k (m / 51) / 2 ^ (m % 51) % 2 = bbit b m
  | 0, m, h => absurd h (by omega)
  | k + 1, m, h => by
    simp only [gl]
    by_cases e : m = k
    · subst e
      rw [if_pos rfl]
      have hl := gl_lt b m (m / 51)
      rw [show min 51 (m - 51 * (m / 51)) = m % 51 by omega] at hl
      have hb := bbit_01 b m
      rw [Int.add_mul_ediv_right _ _ (Int.ne_of_gt (pow_pos2 _)), Int.ediv_eq_zero_of_lt hl.1 hl.2]
      omega
    · have ih := gl_bit b k m (by omega)
      split
      · rename_i h2
        rw [bit_of_sum _ _ _ _ (by omega), ih]
      · exact ih
theorem bit_getE (b : Nat → Int) (m : Nat) (h : m < 255) : bit (getE b 255) m = bbit b m := by
  unfold bit
  rw [getE_limb _ _ _ (by omega)]
  exact gl_bit b 255 m h
theorem pb_mod {y : E} (b : Nat → Int) (hL : ∀ j, 0 ≤ b j) (hb : ∀ m, m < 255 → bit y m = bbit b m) : ∀ k j, k ≤ 255 → pb y k j = b j % 2 ^ (min 8 (k - 8 * j))
  | 0, j, _ => by simp [pb, Int.emod_one]
  | k + 1, j, hk => by
    have ih := pb_mod b hL hb k j (by omega)
    simp only [pb]
    split
    · rename_i h
      have e1 : min 8 (k - 8 * j) = k % 8 := by omega
      have e2 : min 8 (k + 1 - 8 * j) = k % 8 + 1 := by omega
      rw [ih, e1, e2, hb k (by omega), bbit, ← h]
      have h2 := pow_pos2 (k % 8)
      have h3 : b j % 2 ^ (k % 8 + 1) = b j % 2 ^ (k % 8) + 2 ^ (k % 8) * (b j / 2 ^ (k % 8) % 2) := by
        rw [Int.pow_succ]
        generalize (2 : Int) ^ (k % 8) = q at *
        generalize b j = L
        have e3 : L / (q * 2) = L / q / 2 := Int.ediv_mul_of_nonneg (Int.le_of_lt h2)
        rw [Int.emod_def L (q * 2), e3, Int.emod_def L q, Int.emod_def (L / q) 2]
        grind
      rw [h3, Int.mul_comm]
    · rename_i h
      rw [ih]
      congr 2
      omega
theorem put_get {b : Nat → Int} (hr : ∀ j, 0 ≤ b j ∧ b j < 256) (h31 : b 31 < 128) (j : Nat) (hj : j < 32) : pb (getE b 255) 255 j = b j := by
  rw [pb_mod b (fun j => (hr j).1) (fun m hm => bit_getE b m hm) 255 j (Nat.le_refl _)]
  have h := hr j
  by_cases e : j = 31
  · subst e
    exact Int.emod_eq_of_lt h.1 h31
  · rw [show min 8 (255 - 8 * j) = 8 by omega]
    exact Int.emod_eq_of_lt h.1 h.2
/-- the sum of the bits -/
def sb (b : Nat → Int) : Nat → Int
  | 0 => 0
  | k + 1 => sb b k + bbit b k * 2 ^ k
def sy (b : Nat → Int) : Nat → Int
  | 0 => 0
  | k + 1 => sy b k + b k * 256 ^ k
theorem val_sb (b : Nat → Int) : ∀ k, k ≤ 255 → val (getE b k) = sb b k
  | 0, _ => rfl
  | k + 1, hk => by
    have ih := val_sb b k (by omega)
    simp only [sb]
    rw [← ih]
    have hi : k / 51 = 0 ∨ k / 51 = 1 ∨ k / 51 = 2 ∨ k / 51 = 3 ∨ k / 51 = 4 := by omega
    have hp : (2 : Int) ^ k = 2 ^ (51 * (k / 51)) * 2 ^ (k % 51) := by rw [← Int.pow_add]; congr 1; omega
    rw [hp]
    simp only [val, getE, gl]
    generalize (2 : Int) ^ (k % 51) = q
    generalize bbit b k = c
    rcases hi with e | e | e | e | e <;> rw [e] <;> simp <;> grind
theorem sb_sy {b : Nat → Int} (hr : ∀ j, 0 ≤ b j ∧ b j < 256) : ∀ j, sb b (8 * j) = sy b j
  | 0 => rfl
  | j + 1 => by
    have ih := sb_sy hr j
    have hp : ∀ t, (2 : Int) ^ (8 * j + t) = 256 ^ j * 2 ^ t := fun t => by
      rw [Int.pow_add, Int.pow_mul]
      rfl
    rw [show 8 * (j + 1) = 8 * j + 1 + 1 + 1 + 1 + 1 + 1 + 1 + 1 by omega]
    simp only [sb, sy]
    rw [ih, hp, hp, hp, hp, hp, hp, hp, show (2 : Int) ^ (8 * j) = 256 ^ j from by rw [Int.pow_mul]; rfl]
    have h := hr j
    simp only [bbit]
    rw [show (8 * j) / 8 = j by omega, show (8 * j + 1) / 8 = j by omega, show (8 * j + 2) / 8 = j by omega, show (8 * j + 3) / 8 = j by omega, show (8 * j + 4) / 8 = j by omega, show (8 * j + 5) / 8 = j by omega, show (8 * j + 6) / 8 = j by omega, show (8 * j + 7) / 8 = j by omega]
    rw [show (8 * j) % 8 = 0 by omega, show (8 * j + 1) % 8 = 1 by omega, show (8 * j + 2) % 8 = 2 by omega, show (8 * j + 3) % 8 = 3 by omega, show (8 * j + 4) % 8 = 4 by omega, show (8 * j + 5) % 8 = 5 by omega, show (8 * j + 6) % 8 = 6 by omega, show (8 * j + 7) % 8 = 7 by omega]
    have hb : b j = b j % 2 + b j / 2 % 2 * 2 + b j / 4 % 2 * 4 + b j / 8 % 2 * 8 + b j / 16 % 2 * 16 + b j / 32 % 2 * 32 + b j / 64 % 2 * 64 + b j / 128 % 2 * 128 := by omega
    generalize (256 : Int) ^ j = X
    generalize sy b j = Y
    simp only [Int.reducePow, Int.pow_zero, Int.ediv_one, Int.pow_one]
    generalize b j % 2 = t0 at *
    generalize b j / 2 % 2 = t1 at *
    generalize b j / 4 % 2 = t2 at *
    generalize b j / 8 % 2 = t3 at *
    generalize b j / 16 % 2 = t4 at *
    generalize b j / 32 % 2 = t5 at *
    generalize b j / 64 % 2 = t6 at *
    generalize b j / 128 % 2 = t7 at *
    rw [hb]
    grind
theorem sm_sy (b : Nat → Int) : ∀ k, Dg.sm (Dg.bd b) k = sy b (2 * k)
  | 0 => rfl
  | k + 1 => by
    have ih := sm_sy b k
    rw [show 2 * (k + 1) = 2 * k + 1 + 1 by omega]
    simp only [Dg.sm, sy]
    rw [ih, Dg.bd, Int.pow_succ, show (256 : Int) ^ (2 * k) = 65536 ^ k from by rw [Int.pow_mul]; rfl]
    grind
theorem sy_nn {b : Nat → Int} (hr : ∀ j, 0 ≤ b j ∧ b j < 256) : ∀ k, 0 ≤ sy b k
  | 0 => Int.le_refl _
  | k + 1 => by
    have ih := sy_nn hr k
    have h := Int.mul_nonneg (hr k).1 (Int.le_of_lt (show (0 : Int) < 256 ^ k from Int.pow_pos (by decide)))
    simp only [sy]
    omega
theorem val_get {b : Nat → Int} (hr : ∀ j, 0 ≤ b j ∧ b j < 256) : val (getE b 255) = sy b 31 + b 31 % 128 * 256 ^ 31 := by
  have h7 : ∀ K, sb b (K + 7) = sb b K + bbit b K * 2 ^ K + bbit b (K + 1) * 2 ^ (K + 1) + bbit b (K + 2) * 2 ^ (K + 2) + bbit b (K + 3) * 2 ^ (K + 3) + bbit b (K + 4) * 2 ^ (K + 4) + bbit b (K + 5) * 2 ^ (K + 5) + bbit b (K + 6) * 2 ^ (K + 6) := fun K => rfl
  have e8 : sb b 248 = sy b 31 := sb_sy hr 31
  rw [val_sb b 255 (Nat.le_refl _), h7 248, e8]
  have hr31 := (hr 31).1
  simp only [bbit, Nat.reduceDiv, Nat.reduceMod, Nat.reduceAdd]
  generalize sy b 31 = Y
  generalize b 31 = y at *
  have hb : y % 128 = y % 2 + y / 2 % 2 * 2 + y / 4 % 2 * 4 + y / 8 % 2 * 8 + y / 16 % 2 * 16 + y / 32 % 2 * 32 + y / 64 % 2 * 64 := by omega
  rw [hb]
  simp only [Int.reducePow, Int.pow_zero, Int.ediv_one, Int.pow_one]
  omega
theorem sm_get (b : Nat → Int) : Dg.sm (Dg.bd b) 16 = sy b 31 + b 31 * 256 ^ 31 := by
  rw [sm_sy b 16]
  rfl
theorem ok_same {b : Nat → Int} (hr : ∀ j, 0 ≤ b j ∧ b j < 256) : getOk b = lessB (Dg.bd b) pd := by
  have hD := getE_d b 255
  have hv := val_get hr
  have hs := sm_get b
  have hn := sy_nn hr 31
  have h31 := hr 31
  have hc := canon_spec hD.r
  unfold lessB
  rw [pd_sm, hs]
  unfold getOk
  by_cases h : b 31 < 128
  · have e1 : (b 31 / 128 == 1) = false := by simp; omega
    rw [show b 31 % 128 = b 31 by omega] at hv
    rw [e1, ← hv, Bool.not_false, Bool.true_and]
    by_cases hlt : val (getE b 255) < p
    · rw [decide_eq_true hlt]
      refine eqE_iff.2 (D.inj hc.1 hD ?_)
      have hnn : 0 ≤ val (getE b 255) := by
        rw [hv]
        have := Int.mul_nonneg h31.1 (show (0 : Int) ≤ 256 ^ 31 by decide)
        omega
      rw [hc.2, Int.emod_eq_of_lt hnn hlt]
    · rw [decide_eq_false hlt]
      cases hq : eqE (canon (getE b 255)) (getE b 255) with
      | false => rfl
      | true =>
        have h2 := hc.2
        rw [eqE_iff.1 hq] at h2
        exfalso
        apply hlt
        rw [h2]
        exact Int.emod_lt_of_pos _ (by decide)
  · have e1 : (b 31 / 128 == 1) = true := by simp; omega
    rw [e1, Bool.not_true, Bool.false_and]
    refine (decide_eq_false ?_).symm
    have h3 : (128 : Int) * 256 ^ 31 ≤ b 31 * 256 ^ 31 := Int.mul_le_mul_of_nonneg_right (by omega) (by decide)
    have h4 : p ≤ (128 : Int) * 256 ^ 31 := by decide
    omega
theorem ok_get {b : Nat → Int} (hr : ∀ j, 0 ≤ b j ∧ b j < 256) (hok : getOk b = true) : b 31 < 128 ∧ canon (getE b 255) = getE b 255 ∧ ∃ n, nv (getE b 255) = n ∧ ∀ j, j < 16 → Dg.bd b j = Dg.dg n j := by
  have hD := getE_d b 255
  have h31 := hr 31
  have h2 := hok
  unfold getOk at h2
  simp only [Bool.and_eq_true, Bool.not_eq_true', beq_eq_false_iff_ne] at h2
  have hlt : b 31 < 128 := by omega
  have hv := val_get hr
  have hs := sm_get b
  rw [show b 31 % 128 = b 31 by omega, ← hs] at hv
  have hless := ok_same hr
  rw [hok] at hless
  have hl : Dg.sm (Dg.bd b) 16 < p := by
    have := of_decide_eq_true hless.symm
    rwa [pd_sm] at this
  have hnn := (Dg.sm_lt 16 (Dg.bd_di hr)).1
  refine ⟨hlt, eqE_iff.1 h2.2, _, rfl, Dg.dig_of (Dg.bd_di hr) ?_⟩
  rw [nv_int, hv, Int.emod_eq_of_lt hnn hl]
end Fe
namespace Go.Proofs.YtjejibojcjfleaaGreat
open Go.RowKit
theorem lentF_lt {n : Nat} {b : Nat → Int} {j : Nat} (h : j < n) : lentF n b j = b j := if_pos h
theorem gets_s (g o n c : Nat) (b : Nat → Int) (hr : ∀ j, 0 ≤ b j ∧ b j < 256) (w : World) (hg : g < w.heap.size) (hc : ∀ j, j < n → w.cell? ⟨g, o + j, none⟩ = some (.int .u8 (b j))) :
    Calls Tryz.prog 3 #[.slice (some ⟨g, o, none⟩) n c] w (PostV (.bool true) w) := by
  by_cases h100 : 100 < n
  · exact gets_long _ n c h100 w
  · have hn : n ≤ 100 := by omega
    have hcb : ∀ w', Below w.heap.size w w' → ∀ j, j < n → w'.cell? ⟨g, o + j, none⟩ = some (.int .u8 (b j)) := fun w' hb j hj => (hb.cell (p := ⟨g, o + j, none⟩) hg).trans (hc j hj)
    have hL := lentBytes_s g o n c b (by omega) w hg hc
    have hK : ∀ w' g', RowB w' g' (n + 12) (n + 12) (lentF n b) → Below w.heap.size w w' → Calls Tryz.prog 9 #[.slice (some ⟨g', 0, none⟩) n (n + 12), .slice (some ⟨g, o, none⟩) n c] w' fun e w'' => e = .returned (.bool true) ∧ Below w'.heap.size w' w'' := fun w' g' hR hb =>
      keptBytes_s g' g o n c b (by omega) w' hR (Nat.lt_of_lt_of_le hg hb.size) (hcb w' hb)
    by_cases h32 : n = 32
    · subst h32
      have hGc : ∀ w' g', RowB w' g' (32 + 12) (32 + 12) (lentF 32 b) → ∀ j, j < 32 → w'.cell? ⟨g', 0 + j, none⟩ = some (.int .u8 (b j)) := fun w' g' hR j hj => by
        rw [Nat.zero_add, hR.cell j (by omega), lentF_lt hj]
      have hok := Fe.ok_same hr
      have hRd := fun w' (hb : Below w.heap.size w w') => read_s b g o c w' (hcb w' hb) hr (Nat.lt_of_lt_of_le hg hb.size)
      rw [← hok] at hRd
      cases hk : getOk b with
      | false =>
        rw [hk] at hRd
        refine gets_F _ 32 c b (by omega) (readF b) w hL (fun w' g' hR => ?_) hRd hK
        exact get_Ec b g' 0 (32 + 12) w' (hGc w' g' hR) hr hR.lt ⟨0, 0, 0, 0, 0⟩ false hk.symm (by simp)
      | true =>
        rw [hk] at hRd
        obtain ⟨h31, hcan, n, hnv, hdg⟩ := Fe.ok_get hr hk
        have hD := Fe.getE_d b 255
        have hN : av (readF b) = av (Dg.dg n) := av_congr fun j hj => by
          unfold readF
          rw [← hok, hk, if_pos rfl]
          exact hdg j hj
        refine gets_T _ c b (Fe.getE b 255) (Dg.dg n) (Fe.pb (Fe.canon (Fe.getE b 255)) 255) w hL (fun w' g' hR => ?_) (fun w' hb => ?_) hK (fun w' => is_c _ hD.r n hnv w') (fun w' => put_B _ hD.w w') (fun w' g' hB hb => ?_)
        · exact get_Ec b g' 0 (32 + 12) w' (hGc w' g' hR) hr hR.lt (Fe.getE b 255) true hk.symm (by simp)
        · refine (hRd w' hb).mono fun e w'' h => ?_
          obtain ⟨h1, h2⟩ := h
          rw [hN] at h1
          exact ⟨h1, h2⟩
        · have hs := sameBytes_c g' 0 32 32 g o c 32 (Fe.pb (Fe.canon (Fe.getE b 255)) 255) b (by decide) (by decide) w' (byV_cell hB) (hcb w' hb) hB.lt (Nat.lt_of_lt_of_le hg hb.size)
          rw [show sameB 32 32 (Fe.pb (Fe.canon (Fe.getE b 255)) 255) b = true from decide_eq_true ⟨rfl, fun j hj => by rw [hcan]; exact Fe.put_get hr h31 j hj⟩] at hs
          exact hs
    · exact gets_F _ n c b hn (fun _ => 0) w hL (fun w' g' _ => get_x (some ⟨g', 0, none⟩) n (n + 12) h32 w') (fun w' _ => read_x _ n h32 (by omega) (.inr ⟨_, c, rfl⟩) w') hK
theorem gets_0 (w : World) : Calls Tryz.prog 3 #[.slice none 0 0] w (PostV (.bool true) w) :=
  gets_F none 0 0 (fun _ => 0) (by omega) (fun _ => 0) w (lentBytes_0 0 _ rfl w) (fun w' g' _ => get_x (some ⟨g', 0, none⟩) 0 (0 + 12) (by decide) w') (fun w' _ => read_x _ 0 (by decide) (by decide) (.inl ⟨rfl, rfl⟩) w') (fun w' g' hR _ => keptBytes_0 g' _ w' hR)
end Go.Proofs.YtjejibojcjfleaaGreat
namespace Go.Proofs.YtjejibojcjfleaaGreat
open Go.RowKit
set_option maxRecDepth 20000 in
set_option maxRecDepth 20000 in
set_option maxHeartbeats 2000000 in
theorem lentBytes_e (ad : Addr) (n : Nat) (b : Nat → Int) (hn : n = 0) (w : World) :
    Calls Tryz.prog 6 #[.slice (some ad) 0 0] w (PostLent n b w) := by
  have hfin : ∀ w', RowB w' w.heap.size (n + 12) (n + 12) (lentF n b) → Below w.heap.size w w' → PostLent n b w (.returned (.slice (some ⟨w.heap.size, 0, none⟩) n (n + 12))) w' := fun w' h1 h2 => ⟨_, rfl, Nat.le_refl _, h1, h2⟩
  have hl : ∀ j, j < n → lentF n b j = b j := fun j hj => by unfold lentF; rw [if_pos hj]
  have hm : ∀ k : Nat, lentF n b (n + k) = mb 1 k := fun k => by unfold lentF; rw [if_neg (by omega), Nat.add_sub_cancel_left]
  generalize lentF n b = L at *
  subst hn
  obtain ⟨i0, hi, hz0, hz1, hz2⟩ := info_parts u8_infoK
  replace hfin := Lib.hid hfin
  replace hl := Lib.hid hl
  replace hm : ∀ k : Nat, L k = mb 1 k := fun k => by have := hm k; rwa [Nat.zero_add] at this
  replace hm := Lib.hid hm
  replace hz1 := Lib.hid hz1
  replace hz2 := Lib.hid hz2
  replace hz0 := Lib.hid hz0
  replace hi := Lib.hid hi
  go_enter Tryz.func6, Tryz.ntmps6
  go_wp2_with (first
    | (refine wpList_make_own _ rfl _ _ 22 rfl w.heap.size 5 i0 (.int .u8 0) 1 bs_underK hi.out hz0.out hz1.out .i64 .i64 _ 12 rfl rfl (by omega) (by rw [hz2.out]; omega) (by unfold maxLen; omega) (Nat.le_refl _) ?_; intro w1 hO1 hgr1; have hR1 : RowB w1 w.heap.size 0 12 (fun _ => 0) := rowB_of hO1; have hb1 : Below w.heap.size w w1 := (Below.refl _ _).grown hgr1 (Nat.le_refl _) (fun k hk => by cases hk); clear hgr1 hO1)
    | (refine wpList_app rfl rfl rfl hR1 rfl L (fun i hi => absurd hi (by omega)) (fun j hj => absurd hj (by omega)) (by omega) ?_; intro g2 c2 w2 hR2 hgr2 hcase2; have hg2 : g2 = w.heap.size ∧ c2 = 12 := (by rcases hcase2 with h | h; exact ⟨h.1, h.2.1⟩; omega); obtain ⟨hg2a, hg2b⟩ := hg2; subst hg2a hg2b; have hb2 : Below w.heap.size w w2 := hb1.grown hgr2 hb1.size (fun k hk => by injection hk; omega); clear hgr2 hcase2 hR1 hb1))
  go_loopw [3, 4] (fun v i wr => ∃ k : Nat, k ≤ 12 ∧ i = .int .i64 k ∧ v = .slice (some ⟨w.heap.size, 0, none⟩) k 12 ∧ RowB wr w.heap.size k 12 L ∧ Below w.heap.size w wr) (fun _ i _ => (12 - intOf i).toNat)
  case atStart => exact ⟨0, by decide, rfl, rfl, hR2, hb2⟩
  case round =>
    clear hR2 hb2
    obtain ⟨k, hk, hi', hv, hR, hb⟩ := hrel
    subst hi' hv
    by_cases h12 : k = 12
    · subst h12
      have hP := Lib.hid (hfin.out wr hR hb)
      clear hk hR hb
      go_wp2
      go_returns
      exact hP.out
    · have hk0 : (0 : Int) ≤ (k : Int) := by omega
      have hk1 : (k : Int) < 12 := by omega
      have hmk := hm.out k
      clear hk h12
      go_wp2_with fail
      refine (markByte_c 1 k (by omega) (by omega) _).mono ?_
      rintro e w3 ⟨rfl, rfl⟩
      have hRa : RowB (wr.alloc (Obj.cells #[.int .u8 (mb 1 k)] 5)) w.heap.size k 12 L := hR.below ((Below.refl _ _).alloc (Nat.le_refl _) _)
      have hba : Below w.heap.size w (wr.alloc (Obj.cells #[.int .u8 (mb 1 k)] 5)) := hb.alloc hb.size _
      have hca : ∀ j, j < 1 → (wr.alloc (Obj.cells #[.int .u8 (mb 1 k)] 5)).cell? ((⟨wr.heap.size, 0, none⟩ : Addr).add j) = some (.int .u8 (L (k + j))) := fun j hj => by
        obtain rfl : j = 0 := by omega
        rw [add_o, show k + 0 = k from rfl, hmk]
        exact (Blk.new wr _ _).cell 0
      replace hmk := Lib.hid hmk
      generalize mb 1 k = x at *
      clear hR hb
      go_wp2_with (refine wpList_app rfl rfl rfl hRa rfl L (fun i hi => rfl) hca (by omega) ?_; intro g2 c2 w4 hR4 hgr4 hcase4; have hg4 : g2 = w.heap.size ∧ c2 = 12 := (by rcases hcase4 with h | h; exact ⟨h.1, h.2.1⟩; omega); obtain ⟨hg4a, hg4b⟩ := hg4; subst hg4a hg4b; have hb4 : Below w.heap.size w w4 := hba.grown hgr4 hba.size (fun k hk => by injection hk; omega); clear hgr4 hcase4 hca hRa hba)
      exact ⟨⟨k + 1, by omega, rfl, rfl, hR4, hb4⟩, by simp [intOf]; omega⟩

set_option maxRecDepth 20000 in
set_option maxRecDepth 20000 in
set_option maxHeartbeats 2000000 in
theorem keptBytes_e (ad : Addr) (g0 : Nat) (b : Nat → Int) (w : World) (hR : RowB w g0 12 12 (lentF 0 b)) :
    Calls Tryz.prog 9 #[.slice (some ⟨g0, 0, none⟩) 0 12, .slice (some ad) 0 0] w fun e w' => e = .returned (.bool true) ∧ Below w.heap.size w w' := by
  have hm : ∀ k : Nat, lentF 0 b k = mb 1 k := fun k => by unfold lentF; rw [if_neg (by omega), Nat.sub_zero]
  generalize lentF 0 b = L at *
  have hcR := hR.cell
  replace hm := Lib.hid hm
  replace hcR := Lib.hid hcR
  have hRlt := hR.lt
  clear hR
  go_enter Tryz.func9, Tryz.ntmps9
  go_wp2
  go_loopw [6] (fun i wr => ∃ k : Nat, k ≤ 12 ∧ i = .int .i64 k ∧ Below w.heap.size w wr) (fun i _ => (12 - intOf i).toNat)
  case atStart => exact ⟨0, by omega, rfl, Below.refl _ _⟩
  case round =>
    obtain ⟨k, hk, hi', hb⟩ := hrel
    subst hi'
    have hk0 : (0 : Int) ≤ (k : Int) := by omega
    by_cases hend : k = 12
    · have hk1 : (k : Int) = 12 := by omega
      subst hend
      go_wp2
      go_returns
      exact ⟨rfl, hb⟩
    · have hk1 : (k : Int) < 12 := by omega
      have hk2 : k < 12 := by omega
      have cR := (hb.cell (p := ⟨g0, k, none⟩) hRlt).trans (hcR.out k (by omega))
      rw [hm.out k] at cR
      have hmc : ∀ q, Calls Tryz.prog 24 #[.int .i64 1, .int .i64 k] (wr.drewN q) fun e w'' => e = .returned (.int .u8 (mb 1 k)) ∧ ∃ m, w'' = wr.drewN m := fun q => (markByte_c 1 k (by omega) (by omega) _).mono fun _ _ h => ⟨h.1, q, h.2.symm⟩
      have hx : (mb 1 k == mb 1 k) = true := beq_self_eq_true _
      replace hmc := Lib.hid hmc
      have hkn2 : decide ((k : Int) < 0) = false := decide_eq_false (by omega)
      have hkn3 : decide ((0 : Int) ≤ (k : Int)) = true := decide_eq_true hk0
      clear hk hend
      generalize mb 1 (k : Int) = x at *
      go_wp2
      go_quiet (first | (exact hmc.out _))
      go_wp2
      exact ⟨⟨k + 1, by omega, by rw [Int.natCast_add]; rfl, hb.trans (kdrewN (Below.refl _ _) _)⟩, by simp [intOf]; omega⟩
theorem gets_e (ad : Addr) (w : World) : Calls Tryz.prog 3 #[.slice (some ad) 0 0] w (PostV (.bool true) w) :=
  gets_F (some ad) 0 0 (fun _ => 0) (by omega) (fun _ => 0) w (lentBytes_e ad 0 _ rfl w) (fun w' g' _ => get_x (some ⟨g', 0, none⟩) 0 (0 + 12) (by decide) w') (fun w' _ => read_x _ 0 (by decide) (by decide) (.inr ⟨_, _, rfl⟩) w') (fun w' g' hR _ => keptBytes_e ad g' _ w' hR)
end Go.Proofs.YtjejibojcjfleaaGreat
namespace Go.Proofs.YtjejibojcjfleaaGreat
open Go.RowKit Go.WideShapes Go.ChangeShapes
section
variable {H : Type} {enc : TypeId × Value → H} {P : Program}
theorem post_of_below {f : Func} {s : ChangeSpec} {apart fresh handsOn again : Bool} {W W' : World} {args : Array Value} {v : Value} {ds gs : List (DataW H)} {before pa pv : List MemPlace}
    (hW : DataW.Whole enc P f.params.toList s.vars apart W args.toList ds gs before)
    (hres : ∀ (b : Nat) (sp : Nat → Bool) (hd : Bool), DataW.TrodAll enc P W' b sp hd f.resultTypes.toList (v.resultList f.resultTypes.size) (s.fn H (ds ++ gs)).results [])
    (hargs : ∀ sp : Nat → Bool, (∀ p ∈ before, sp p.block = true) → DataW.TrodAll enc P W' 0 sp true f.params.toList args.toList (s.fn H (ds ++ gs)).args pa)
    (hvars : ∀ sp : Nat → Bool, (∀ p ∈ before, sp p.block = true) → DataW.TrodVars enc P W' sp s.vars (s.fn H (ds ++ gs)).vars pv)
    (hps : before = pa ++ pv) (hb : Below W.heap.size W W')
    (hok : ∀ (j : Nat) (t : TypeId) (r : Value), f.resultTypes[j]? = some t → (v.resultList f.resultTypes.size)[j]? = some r → Value.okWide P W' .any 0 t r) :
    s.post enc P f apart fresh handsOn again W args v W' := by
  have hlt : ∀ p ∈ before, p.block < W.heap.size := fun p hp => hW.lt p hp
  have hold : ∀ p ∈ before, (fun b => decide (b < W.heap.size)) p.block = true := fun p hp => by simpa using hlt p hp
  refine ⟨ds, gs, before, [], pa, pv, hW, hres _ _ _, hargs _ hold, hvars _ hold, World.keptBut_mono (fun p hp => ⟨hp, ?_⟩) (hb.frame (· ∈ before)), fun _ => ?_⟩
  · rw [hps, List.mem_append] at hp
    exact Or.inr hp
  · obtain ⟨_, _, _, _, _, hz, hn⟩ := hW
    refine ⟨hok, _, _, ([] ++ pa) ++ pv, ⟨[] ++ pa, pv, trodAll_append (hargs _ (fun _ _ => rfl)) (hres _ _ _), hvars _ (fun _ _ => rfl), rfl, ?_, ?_⟩, ?_⟩
    · intro b off hp
      have hin : MemPlace.cell b off ∈ before := by rw [hps]; simpa using hp
      rw [hb.frozen (hlt _ hin)]
      exact hz b off hin
    · intro ha
      have := hn ha
      rw [hps] at this
      simpa using this
    · intro p hp _
      rw [hps]
      simpa using hp
end
end Go.Proofs.YtjejibojcjfleaaGreat
namespace Go.Proofs.YtjejibojcjfleaaGreat
open Go.RowKit
theorem same_t {x y : Fe.E} (hx : Fe.R x) (hy : Fe.R y) (h : Fe.nv x = Fe.nv y) (w : World) : Calls Tryz.prog 21 #[.agg #[.int .u64 x.a0, .int .u64 x.a1, .int .u64 x.a2, .int .u64 x.a3, .int .u64 x.a4], .agg #[.int .u64 y.a0, .int .u64 y.a1, .int .u64 y.a2, .int .u64 y.a3, .int .u64 y.a4]] w (PostV (.bool true) w) := by
  have h1 := same_E x y hx.w hy.w w
  rw [Fe.same_dec hx hy, decide_eq_true h] at h1
  exact h1
theorem same_v {x y : Fe.E} (hx : Fe.R x) (hy : Fe.R y) {v : Bool} (h : decide (Fe.nv x = Fe.nv y) = v) (w : World) : Calls Tryz.prog 21 #[.agg #[.int .u64 x.a0, .int .u64 x.a1, .int .u64 x.a2, .int .u64 x.a3, .int .u64 x.a4], .agg #[.int .u64 y.a0, .int .u64 y.a1, .int .u64 y.a2, .int .u64 y.a3, .int .u64 y.a4]] w (PostV (.bool v) w) := by
  have h1 := same_E x y hx.w hy.w w
  rw [Fe.same_dec hx hy, h] at h1
  exact h1
theorem zero_v {x : Fe.E} (hx : Fe.R x) {v : Bool} (h : decide (Fe.nv x = 0) = v) (w : World) : Calls Tryz.prog 22 #[.agg #[.int .u64 x.a0, .int .u64 x.a1, .int .u64 x.a2, .int .u64 x.a3, .int .u64 x.a4]] w (PostV (.bool v) w) := by
  have h1 := zero_E x hx.w w
  rw [Fe.zero_dec hx, h] at h1
  exact h1

theorem odd_r {x : Fe.E} (hx : Fe.R x) {v : Bool} (h : decide (Fe.nv x % 2 = 1) = v) (w : World) : Calls Tryz.prog 41 #[.agg #[.int .u64 x.a0, .int .u64 x.a1, .int .u64 x.a2, .int .u64 x.a3, .int .u64 x.a4]] w (PostV (.bool v) w) := by
  have h1 := odd_E x hx.w ⟨(Fe.canon_d x).1.1, Int.le_trans (Int.le_of_lt (Fe.canon_d x).1.2) (by decide)⟩ w
  have e : decide ((Fe.canon x).a0 % 2 = 1) = v := by
    rw [← h]
    exact decide_eq_decide.2 (Fe.odd_iff hx)
  rw [e] at h1
  exact h1
theorem right_any (e : Fe.E) (hW : Fe.W e) : ∃ r : Bool, (r = true ↔ Fe.R e) ∧ ∀ w, Calls Tryz.prog 28 #[.agg (ev e)] w (PostV (.bool r) w) := by
  by_cases h : Fe.R e
  · exact ⟨true, by simp [h], fun w => rRight_t e.a0 e.a1 e.a2 e.a3 e.a4 h w⟩
  · exact ⟨false, by simp [h], fun w => rRight_f e hW h w⟩
end Go.Proofs.YtjejibojcjfleaaGreat
namespace Go.Proofs.YtjejibojcjfleaaGreat
open Go.RowKit
set_option maxRecDepth 20000 in
set_option maxHeartbeats 4000000 in
theorem fieldReckons_c (a b : Fe.E) (hwa : Fe.W a) (hwb : Fe.W b) (w : World) : Calls Tryz.prog 14 #[.agg #[.int .u64 a.a0, .int .u64 a.a1, .int .u64 a.a2, .int .u64 a.a3, .int .u64 a.a4], .agg #[.int .u64 b.a0, .int .u64 b.a1, .int .u64 b.a2, .int .u64 b.a3, .int .u64 b.a4]] w (PostV (.bool true) w) := by
  by_cases hR : Fe.R a ∧ Fe.R b
  · obtain ⟨ha, hb⟩ := hR
    have la := Fe.nv_lt a
    have lb := Fe.nv_lt b
    have hs := (Fe.addE_r ha hb).1
    have hd := (Fe.subE_r ha hb).1
    have hm := (Fe.mulE_r ha hb).1
    have hn := (Fe.subE_r Fe.R_zero ha).1
    have hq := (Fe.mulE_r ha ha).1
    have nn := fun w => rSub_c 0 (Fe.nv a) (by unfold Fe.P; decide) la w
    rw [dg_zero] at nn
    have ez := eqN_dec la (show 0 < Fe.P by unfold Fe.P; decide)
    rw [dg_zero] at ez
    exact reckons_g a b (Fe.addE a b) (Fe.subE a b) (Fe.mulE a b) (Fe.subE ⟨0, 0, 0, 0, 0⟩ a) (Fe.mulE a a) (Dg.dg (Fe.nv a)) (Dg.dg (Fe.nv b)) _ _ _ _ _ _ _ _ _
      (fun w => rRight_t a.a0 a.a1 a.a2 a.a3 a.a4 ha w) (fun w => rRight_t b.a0 b.a1 b.a2 b.a3 b.a4 hb w)
      (fun w => rFrom_c a.a0 a.a1 a.a2 a.a3 a.a4 ha w) (fun w => rFrom_c b.a0 b.a1 b.a2 b.a3 b.a4 hb w)
      (fun w => add_E a b w) (fun w => sub_E a b w) (fun w => mul_E a b hwa hwb w) (fun w => neg_E a w) (fun w => square_E a hwa w)
      (fun w => rAdd_c _ _ la lb w) (fun w => rSub_c _ _ la lb w) (fun w => rMul_c _ _ la lb w) nn (fun w => rMul_c _ _ la la w) (fun w => rSmall_c 1 (by decide) w)
      (fun w => is_c _ hs _ (Fe.nv_add ha hb) w) (fun w => is_c _ hd _ (Fe.nv_sub ha hb) w) (fun w => is_c _ hm _ (Fe.nv_mul ha hb) w) (fun w => is_c _ hn _ (by rw [Fe.nv_neg ha, Nat.zero_add]) w) (fun w => is_c _ hq _ (Fe.nv_mul ha ha) w)
      (fun w => is_c ⟨1, 0, 0, 0, 0⟩ Fe.R_one 1 Fe.nv_one w)
      (same_v ha hb rfl) (zero_v ha rfl) (odd_r ha rfl) (fun w => rOdd_c (Fe.nv a) w) (eqN_dec la lb) ez w
  · obtain ⟨ra, ha, cra⟩ := right_any a hwa
    obtain ⟨rb, hb, crb⟩ := right_any b hwb
    have hr : (ra && rb) = false := by
      rw [← Bool.not_eq_true, Bool.and_eq_true]
      exact fun h => hR ⟨ha.1 h.1, hb.1 h.2⟩
    exact reckons_n a b (Fe.addE a b) (Fe.subE a b) (Fe.mulE (Fe.addE a b) (Fe.subE a b)) (Fe.subE ⟨0, 0, 0, 0, 0⟩ a) (Fe.mulE b b) _ _ ra rb hr cra crb
      (fun w => add_E a b w) (fun w => sub_E a b w) (fun w => mul_E _ _ (Fe.addE_w _ _) (Fe.subE_w _ _) w) (fun w => put_B _ (Fe.mulE_w _ _) w) (fun w => neg_E a w) (fun w => square_E b hwb w)
      (fun w => same_E _ _ (Fe.subE_w _ _) (Fe.mulE_w _ _) w) w

end Go.Proofs.YtjejibojcjfleaaGreat
namespace Go.Proofs.YtjejibojcjfleaaGreat
open Go.RowKit
theorem root_p {u v : Fe.E} (hu : Fe.R u) (hv : Fe.R v) : ∃ r, Fe.R r ∧ Fe.nv r = Fe.rN (Fe.nv u) (Fe.nv v) ∧ (Fe.bN (Fe.nv u) (Fe.nv v) = false → r = ⟨0, 0, 0, 0, 0⟩) ∧ ∀ w, Calls Tryz.prog 20 #[.agg (ev u), .agg (ev v)] w (PostR r (Fe.bN (Fe.nv u) (Fe.nv v)) w) := by
  obtain ⟨h1, h2, h3⟩ := Fe.root_n hu hv
  refine ⟨rootE u v, h3, h2, fun h => ?_, fun w => ?_⟩
  · rw [← h1] at h
    unfold rootB at h
    simp only [Bool.or_eq_false_iff] at h
    unfold rootE
    rw [h.1, h.2]
    rfl
  · rw [← h1]
    exact root_E u v hu.w hv.w w
set_option maxRecDepth 20000 in
set_option maxHeartbeats 4000000 in
theorem fieldPowers_c (a b : Fe.E) (hwa : Fe.W a) (hwb : Fe.W b) (w : World) : Calls Tryz.prog 15 #[.agg #[.int .u64 a.a0, .int .u64 a.a1, .int .u64 a.a2, .int .u64 a.a3, .int .u64 a.a4], .agg #[.int .u64 b.a0, .int .u64 b.a1, .int .u64 b.a2, .int .u64 b.a3, .int .u64 b.a4]] w (PostV (.bool true) w) := by
  by_cases hR : Fe.R a ∧ Fe.R b
  · obtain ⟨ha, hb⟩ := hR
    have la := Fe.nv_lt a
    have lb := Fe.nv_lt b
    obtain ⟨r, rr, nr, zr, crt⟩ := root_p ha hb
    have nrt := fun w => rRoot_c _ _ la lb w
    have haa := (Fe.mulE_r ha ha).1
    have hu := (Fe.mulE_r haa hb).1
    have nu : Fe.nv (Fe.mulE (Fe.mulE a a) b) = Fe.nv a * Fe.nv a % Fe.P * Fe.nv b % Fe.P := by rw [Fe.nv_mul haa hb, Fe.nv_mul ha ha]
    have hok : Fe.bN (Fe.nv (Fe.mulE (Fe.mulE a a) b)) (Fe.nv b) = true := by rw [nu]; exact Fe.root_ok la lb
    obtain ⟨r2, rr2, nr2, -, crt2⟩ := root_p hu hb
    have nrt2 := fun w => rRoot_c _ _ (Fe.nv_lt (Fe.mulE (Fe.mulE a a) b)) lb w
    rw [hok] at crt2 nrt2
    have hi := Fe.pw_r ha 255 21 255
    have ni : Fe.nv (Fe.pw a 255 21 255) = Fe.nv a ^ (Fe.P - 2) % Fe.P := by
      rw [Fe.nv_pwx ha Fe.chk255 (by decide) (by decide)]
      rfl
    have cfa := fun w => rFrom_c a.a0 a.a1 a.a2 a.a3 a.a4 ha w
    have cfb := fun w => rFrom_c b.a0 b.a1 b.a2 b.a3 b.a4 hb w
    have cra := fun w => rRight_t a.a0 a.a1 a.a2 a.a3 a.a4 ha w
    have crb := fun w => rRight_t b.a0 b.a1 b.a2 b.a3 b.a4 hb w
    have cfu := fun w => rFrom_c (Fe.mulE (Fe.mulE a a) b).a0 (Fe.mulE (Fe.mulE a a) b).a1 (Fe.mulE (Fe.mulE a a) b).a2 (Fe.mulE (Fe.mulE a a) b).a3 (Fe.mulE (Fe.mulE a a) b).a4 hu w
    cases hbn : Fe.bN (Fe.nv a) (Fe.nv b)
    · have hz := zr hbn
      rw [hbn] at crt nrt
      have cne := fun w => run_neq_E r ⟨0, 0, 0, 0, 0⟩ w
      rw [show eqE r ⟨0, 0, 0, 0, 0⟩ = true from eqE_iff.2 hz] at cne
      exact powers_f a b r (Fe.mulE (Fe.mulE a a) b) (Fe.mulE a a) r2 (Fe.pw a 255 21 255) _ _ _ _ _ _ cra crb cfa cfb crt nrt cne
        (fun w => square_E a hwa w) (fun w => mul_E _ b haa.w hwb w) crt2 cfu nrt2 (fun w => invert_E a hwa w) (fun w => rInv_c _ la w) (fun w => is_c _ hi _ ni w) (fun w => is_c r2 rr2 _ nr2 w) w
    · rw [hbn] at crt nrt
      exact powers_t a b r (Fe.mulE (Fe.mulE a a) b) (Fe.mulE a a) r2 (Fe.pw a 255 21 255) _ _ _ _ _ _ cra crb cfa cfb crt nrt (fun w => is_c r rr _ nr w)
        (fun w => square_E a hwa w) (fun w => mul_E _ b haa.w hwb w) crt2 cfu nrt2 (fun w => invert_E a hwa w) (fun w => rInv_c _ la w) (fun w => is_c _ hi _ ni w) (fun w => is_c r2 rr2 _ nr2 w) w
  · obtain ⟨ra, ha, cra⟩ := right_any a hwa
    obtain ⟨rb, hb, crb⟩ := right_any b hwb
    have hr : (ra && rb) = false := by
      rw [← Bool.not_eq_true, Bool.and_eq_true]
      exact fun h => hR ⟨ha.1 h.1, hb.1 h.2⟩
    exact powers_n a b _ _ _ ra rb hr cra crb (fun w => invert_E a hwa w) (fun w => root_E a b hwa hwb w) w

end Go.Proofs.YtjejibojcjfleaaGreat
namespace Go.Proofs.YtjejibojcjfleaaGreat
open Go.RowKit
def ptV (p : Nat → Int) : Array Value := ((List.range 10).map fun j => Value.int .u64 (p j)).toArray
theorem ptV_get (p : Nat → Int) (j : Nat) (h : j < 10) : (ptV p)[j]? = some (.int .u64 (p j)) := by simp [ptV, h]
structure AllR (w0 : World) (gp : Nat) (p : Nat → Int) (v : Value) (m : Nat) (w : World) : Prop where
  parts : Blk w gp 25 (ptV p)
  below : Below w0.heap.size w0 w
  row : ∃ xs : List Int, w.ownsRow (gp + 1) 27 5 v m (xs.map (.int .u64 ·)) ∧ ∀ x ∈ xs, 0 ≤ x ∧ x < 18446744073709551616
theorem pt0 : ∃ p : Nat → Int, (#[.int .u64 0, .int .u64 1, .int .u64 18, .int .u64 19, .int .u64 2251799813685228, .int .u64 2251799813685229, .int .u64 2251799813685230, .int .u64 2251799813685247, .int .u64 2251799813685248, .int .u64 4503599627370495] : Array Value) = ptV p ∧ ∀ j, 0 ≤ p j ∧ p j < 18446744073709551616 := by
  refine ⟨fun j => [0, 1, 18, 19, 2251799813685228, 2251799813685229, 2251799813685230, 2251799813685247, 2251799813685248, 4503599627370495].getD j 0, rfl, fun j => ?_⟩
  match j with
  | 0 | 1 | 2 | 3 | 4 | 5 | 6 | 7 | 8 | 9 => decide
  | n + 10 => simp
theorem el_info : (Tryz.prog.info? 27).map (fun i => (i.zero, i.size, i.bytes)) = some (some (.agg #[.int .u64 0, .int .u64 0, .int .u64 0, .int .u64 0, .int .u64 0]), 5, 40) := by kernel_rfl
theorem els_under : Tryz.prog.underlying 41 = some (.slice 27) := by kernel_rfl
theorem ownsRow_ne_low {w : World} {base : Nat} {e : TypeId} {size : Nat} {v : Value} {n : Nat} {xs : List Value} (h : w.ownsRow base e size v n xs) {b : Nat} (hb : b < base) : some b ≠ v.ownBlock := fun e1 => by
  rcases h.2 with ⟨rfl, _⟩ | ⟨g, cap, cur, rfl, hg, _⟩
  · simp [Value.ownBlock] at e1
  · simp [Value.ownBlock] at e1
    omega
theorem ptS {w : World} {g : Nat} {p : Nat → Int} {a k : Nat} (h : Blk w g 25 (ptV p)) (ha : a < 10) (hk : k < 10) : w.cell? ⟨g, a, none⟩ = some (.int .u64 (p a)) ∧ w.cell? ⟨g, k, none⟩ = some (.int .u64 (p k)) := ⟨(h.cell a).trans (ptV_get _ _ ha), (h.cell k).trans (ptV_get _ _ hk)⟩
def newV (x y : Int) : Array Value := #[.int .u64 x, .int .u64 y, .int .u64 y, .int .u64 y, .int .u64 y, .int .u64 x, .int .u64 0, .int .u64 0, .int .u64 0, .int .u64 y]
def newI (x y : Int) : List Int := [x, y, y, y, y, x, 0, 0, 0, y]
theorem newV_one (x y : Int) : ∀ u ∈ (newV x y).toList, u.oneCell' = true := fun u hu => by
  simp only [newV, List.mem_cons, List.not_mem_nil, or_false] at hu
  rcases hu with rfl | rfl | rfl | rfl | rfl | rfl | rfl | rfl | rfl | rfl <;> rfl
theorem xs_new {xs : List Int} {x y : Int} (h : ∀ x ∈ xs, 0 ≤ x ∧ x < 18446744073709551616) (hx : 0 ≤ x ∧ x < 18446744073709551616) (hy : 0 ≤ y ∧ y < 18446744073709551616) : ∀ z ∈ xs ++ newI x y, 0 ≤ z ∧ z < 18446744073709551616 := fun z hz => by
  rcases List.mem_append.1 hz with hz | hz
  · exact h z hz
  · simp only [newI, List.mem_cons, List.not_mem_nil, or_false] at hz
    rcases hz with rfl | rfl | rfl | rfl | rfl | rfl | rfl | rfl | rfl | rfl <;> first | exact hx | exact hy | decide
structure AllS (w0 : World) (ga : Nat) (x : Nat → Int) (w : World) : Prop where
  lt : ga < w.heap.size
  below : Below w0.heap.size w0 w
  cell : ∀ i, i < 1000 → w.cell? ⟨ga, i, none⟩ = some (.int .u64 (x i))
theorem AllS.el {w0 w : World} {ga : Nat} {x : Nat → Int} (h : AllS w0 ga x w) (m : Nat) (hm : m < 200) : w.cell? ⟨ga, m * 5, none⟩ = some (.int .u64 (x (m * 5))) ∧ w.cell? ⟨ga, m * 5 + 1, none⟩ = some (.int .u64 (x (m * 5 + 1))) ∧ w.cell? ⟨ga, m * 5 + 2, none⟩ = some (.int .u64 (x (m * 5 + 2))) ∧ w.cell? ⟨ga, m * 5 + 3, none⟩ = some (.int .u64 (x (m * 5 + 3))) ∧ w.cell? ⟨ga, m * 5 + 4, none⟩ = some (.int .u64 (x (m * 5 + 4))) :=
  ⟨h.cell _ (by omega), h.cell _ (by omega), h.cell _ (by omega), h.cell _ (by omega), h.cell _ (by omega)⟩
theorem AllS.drew {w0 w : World} {ga : Nat} {x : Nat → Int} (h : AllS w0 ga x w) : AllS w0 ga x w.drew := ⟨h.lt, h.below.drew, h.cell⟩
/-- element m of a row of parts -/
def elx (x : Nat → Int) (m : Nat) : Fe.E := ⟨x (m * 5), x (m * 5 + 1), x (m * 5 + 2), x (m * 5 + 3), x (m * 5 + 4)⟩
def aggx (x : Nat → Int) (m : Nat) : Value := .agg #[.int .u64 (x (m * 5)), .int .u64 (x (m * 5 + 1)), .int .u64 (x (m * 5 + 2)), .int .u64 (x (m * 5 + 3)), .int .u64 (x (m * 5 + 4))]
theorem elx_w {x : Nat → Int} (hx : ∀ i, 0 ≤ x i ∧ x i < 18446744073709551616) (m : Nat) : Fe.W (elx x m) := by
  have h := fun i => show 0 ≤ x i ∧ x i ≤ 18446744073709551615 from ⟨(hx i).1, by have := (hx i).2; omega⟩
  exact ⟨h _, h _, h _, h _, h _⟩
theorem w1_w : Fe.W ⟨1, 0, 0, 0, 0⟩ := by unfold Fe.W; decide
theorem w0_w : Fe.W ⟨0, 0, 0, 0, 0⟩ := by unfold Fe.W; decide
theorem AllS.after {w0 w w' : World} {ga : Nat} {x : Nat → Int} (h : AllS w0 ga x w) (hb : Below w.heap.size w w') : AllS w0 ga x w' :=
  ⟨Nat.lt_of_lt_of_le h.lt hb.size, h.below.trans (hb.mono h.below.size), fun i hi => (hb.cell (p := ⟨ga, i, none⟩) h.lt).trans (h.cell i hi)⟩
theorem AllR.open_ {w0 w : World} {gp : Nat} {p : Nat → Int} {v : Value} (h : AllR w0 gp p v 200 w) : ∃ g c x, v = .slice (some ⟨g, 0, none⟩) 200 c ∧ AllS w0 g x w ∧ ∀ i, 0 ≤ x i ∧ x i < 18446744073709551616 := by
  obtain ⟨_, hb, xs, hrow, hxs⟩ := h
  obtain ⟨g, c, rfl, _, hlt⟩ := hrow.form (by decide)
  have hl : xs.length = 1000 := by simpa using hrow.1
  refine ⟨g, c, fun i => xs.getD i 0, rfl, ⟨hlt, hb, fun i hi => ?_⟩, fun i => ?_⟩
  · rw [hrow.cellAt i (by omega)]
    simp [hl, hi]
  · by_cases hi : i < xs.length
    · simp only [List.getD_eq_getElem?_getD, List.getElem?_eq_getElem hi, Option.getD_some]
      exact hxs _ (List.getElem_mem hi)
    · simp [List.getD_eq_getElem?_getD, List.getElem?_eq_none (Nat.le_of_not_lt hi)]
theorem step_app {wr : World} {gp m : Nat} {v : Value} {xs : List Int} {x y : Int} {ops : Array Oper} {o : Oper} {a : Act} {K : Act → World → Prop} {Q : Exit → Act → World → Prop} {E : Prop} (hrow : wr.ownsRow (gp + 1) 27 5 v m (xs.map (.int .u64 ·))) (hm : m ≤ 1000) (hgp : gp < wr.heap.size)
    (hgd : o.guard = none) (ho : o.op = .call { callee := .builtin .append, args := #[.tmp 25, .tmp 56], argTypes := #[41, 41] })
    (hs : a.eval (.tmp 25) = v) (hx : a.eval (.tmp 56) = .slice (some ⟨wr.heap.size, 0, none⟩) 2 2)
    (h : ∀ g cap w', w'.ownsRow (gp + 1) 27 5 (.slice (some ⟨g, 0, none⟩) (m + 2) cap) (m + 2) ((xs ++ newI x y).map (.int .u64 ·)) → wr.grownBy w' v.ownBlock → K (a.put o.dst (.slice (some ⟨g, 0, none⟩) (m + 2) cap)) w') :
    if Region.wanted o (yielded ops a.tmps) = true then Oper.wp Tryz.prog o a (World.drew (World.alloc wr (.cells (newV x y) 27))) K Q else E := by
  obtain ⟨i, hi, hz, hs', hby⟩ := info_parts el_info
  have hb : gp + 1 ≤ (World.drew (World.alloc wr (.cells (newV x y) 27))).heap.size := by
    have : (World.drew (World.alloc wr (.cells (newV x y) 27))).heap.size = wr.heap.size + 1 := by show (World.alloc wr _).heap.size = _; simp
    omega
  refine step_append_lies (w := World.drew (World.alloc wr (.cells (newV x y) 27))) hgd (.tmp 25) (.tmp 56) 41 ho (gp + 1) 27 i _ 5 40 els_under hi hz hs' hby rfl (by decide) v m (xs.map (.int .u64 ·)) hs ((hrow.alloc _).drew) ⟨wr.heap.size, 0, none⟩ 2 2 (newV x y).toList hx rfl (World.news_of_block (Blk.new wr 27 (newV x y))) (newV_one _ _) (by decide) (by unfold maxLen; omega) (by omega) hb _ rfl ?_
  intro g cap w1 hown hgr _ _
  refine h g cap w1 ?_ ?_
  · rw [List.map_append]
    exact hown
  · have h1 := World.grownBy_alloc wr (.cells (newV x y) 27) v.ownBlock
    have h2 : wr.grownBy (World.drew (World.alloc wr (.cells (newV x y) 27))) v.ownBlock := ⟨h1.os, h1.tape, h1.output, h1.size, h1.block⟩
    exact h2.trans hgr
def up31 (b : Nat → Int) (j : Nat) : Int := if j = 31 then 255 else b j
def up32 (b : Nat → Int) (j : Nat) : Int := if j = 32 then 0 else b j
theorem up31_range {b : Nat → Int} (h : ∀ j, 0 ≤ b j ∧ b j < 256) (j : Nat) : 0 ≤ up31 b j ∧ up31 b j < 256 := by unfold up31; split; decide; exact h j
theorem up32_range {b : Nat → Int} (h : ∀ j, 0 ≤ b j ∧ b j < 256) (j : Nat) : 0 ≤ up32 b j ∧ up32 b j < 256 := by unfold up32; split; decide; exact h j
theorem up32_lt {b : Nat → Int} {i : Nat} (h : i < 32) : b i = up32 b i := by unfold up32; rw [if_neg (by omega)]
theorem byV_set31 (b : Nat → Int) : (byV 32 b).setIfInBounds 31 (.int .u8 255) = byV 32 (up31 b) := rfl
theorem byV_cell1 {w : World} {g : Nat} {b : Nat → Int} (h : Blk w g 5 (byV 32 b)) : ∀ j, j < 31 → w.cell? ⟨g, 1 + j, none⟩ = some (.int .u8 (b (1 + j))) := fun j hj => by
  rw [h.cell, byV_get 32 b _ (by omega)]
theorem new1_cell (w : World) (b : Nat → Int) : ∀ j, j < 1 → (w.alloc (.cells #[.int .u8 0] 5)).cell? ((⟨w.heap.size, 0, none⟩ : Addr).add j) = some (.int .u8 (up32 b (32 + j))) := fun j hj => by
  obtain rfl : j = 0 := by omega
  rw [add_o]
  exact (Blk.new w 5 #[.int .u8 0]).cell 0
theorem wpList_appW {ops : Array Oper} {rest : List Oper} {o : Oper} {a : Act} {w : World} {Q : Exit → Act → World → Prop} (hw : Region.wanted o (yielded ops a.tmps) = true) {s x : Operand} (ho : o.op = .call { callee := .builtin .append, args := #[s, x], argTypes := #[22, 22] }) {g n c : Nat} {f : Nat → Int} (hs : a.eval s = .slice (some ⟨g, 0, none⟩) n c) (hR : RowB w g n c f)
    {ad : Addr} {m c2 : Nat} (hx : a.eval x = .slice (some ad) m c2) (f2 : Nat → Int) (hf : ∀ i, i < n → f i = f2 i) (hnews : ∀ j, j < m → w.cell? (ad.add j) = some (.int .u8 (f2 (n + j)))) (hb : n + m ≤ 140737488355328)
    (h : ∀ g' c' w', RowB w' g' (n + m) c' f2 → w.grownBy w' (some g) → ((g' = g ∧ c' = c ∧ n + m ≤ c) ∨ (g' = w.heap.size ∧ c < n + m)) → wpList Tryz.prog ops Q rest (a.put o.dst (.slice (some ⟨g', 0, none⟩) (n + m) c')) w') : wpList Tryz.prog ops Q (o :: rest) a w :=
  wpList_step fun K hK => by
    rw [if_pos hw]
    obtain ⟨g', c', w', hr, h2, h3, h4⟩ := run_app w o.type hR ad m c2 hf hnews hb
    unfold Oper.wp execOp
    simp only [ho, resolve, invoke, builtin, Sem.run_bind, Sem.run_pure, Result.andThen_ok, List.map_toArray, List.map_cons, List.map_nil, hs, hx, hr]
    exact hK _ _ (h g' c' w' h2 h3 h4)
set_option maxRecDepth 20000 in
set_option maxHeartbeats 20000000 in
theorem numbers_g (hRk : ∀ a b : Fe.E, Fe.W a → Fe.W b → ∀ w, Calls Tryz.prog 14 #[.agg #[.int .u64 a.a0, .int .u64 a.a1, .int .u64 a.a2, .int .u64 a.a3, .int .u64 a.a4], .agg #[.int .u64 b.a0, .int .u64 b.a1, .int .u64 b.a2, .int .u64 b.a3, .int .u64 b.a4]] w (PostV (.bool true) w))
    (hPw : ∀ a b : Fe.E, Fe.W a → Fe.W b → ∀ w, Calls Tryz.prog 15 #[.agg #[.int .u64 a.a0, .int .u64 a.a1, .int .u64 a.a2, .int .u64 a.a3, .int .u64 a.a4], .agg #[.int .u64 b.a0, .int .u64 b.a1, .int .u64 b.a2, .int .u64 b.a3, .int .u64 b.a4]] w (PostV (.bool true) w))
    (w : World) : Calls Tryz.prog 4 #[] w fun e w2 => e = .returned (.bool true) ∧ Below w.heap.size w w2 := by
  obtain ⟨p, hp, hpr⟩ := pt0
  replace hRk := Lib.hid hRk
  replace hPw := Lib.hid hPw
  go_enter Tryz.func4, Tryz.ntmps4
  go_wp2
  refine at_world (fun W0 hW => ?_)
  have hI : AllR w w.heap.size p (.slice none 0 0) 0 W0 := by
    rw [hW]
    exact ⟨Blk.new _ _ _, (Below.refl _ _).alloc (Nat.le_refl _) _, [], ⟨rfl, .inl ⟨rfl, rfl⟩⟩, by simp⟩
  clear hW hp
  go_loopw [2, 3] (fun v i wr => ∃ a : Nat, a ≤ 10 ∧ i = .int .i64 a ∧ AllR w w.heap.size p v (20 * a) wr) (fun _ i _ => (10 - intOf i).toNat)
  case atStart => exact ⟨0, by decide, rfl, hI⟩
  case round =>
    obtain ⟨a, ha, hi, hI⟩ := hrel
    subst hi
    by_cases ha10 : a = 10
    · have hA : (a : Int) = 10 := by omega
      rw [hA]
      obtain ⟨ga, ca, x, rfl, hS, hx⟩ := (show AllR w w.heap.size p u2 200 wr from by rw [show 200 = 20 * a by omega]; exact hI).open_
      clear ha hI hA ha10
      go_wp2
      go_loopw [5] (fun i wx => ∃ m : Nat, m ≤ 200 ∧ i = .int .i64 m ∧ AllS w ga x wx) (fun i _ => (200 - intOf i).toNat)
      case atStart => exact ⟨0, by decide, rfl, hS⟩
      case round =>
        clear hS
        obtain ⟨m, hm, hi, hS⟩ := hrel
        subst hi
        by_cases hm2 : m = 200
        · have hM : (m : Int) = 200 := by omega
          rw [hM]
          clear hM hm hm2
          go_wp2
          go_loopw [7] (fun i wx => ∃ e : Nat, e ≤ 208 ∧ i = .int .i64 e ∧ AllS w ga x wx) (fun i _ => (208 - intOf i).toNat)
          case atStart => exact ⟨0, by decide, rfl, hS⟩
          case round =>
            clear hS
            obtain ⟨e, he, hi, hS⟩ := hrel
            subst hi
            by_cases he2 : 200 ≤ e
            · have he1 : ¬ (e : Int) < 200 := by omega
              have hB := hS.below
              clear hx hS he he2
              go_wp2
              go_loopw [8] (fun i wx => ∃ z : Int, -20 ≤ z ∧ z ≤ 19 ∧ i = .int .i64 z ∧ Below w.heap.size w wx) (fun i _ => (19 - intOf i).toNat)
              case atStart => exact ⟨-20, by decide, by decide, rfl, hB⟩
              case round =>
                clear hB
                obtain ⟨z, hz0, hz1, hi, hB⟩ := hrel
                subst hi
                by_cases hz2 : z = 19
                · subst hz2
                  go_wp2
                  go_loopw [11] (fun i wx => ∃ n : Nat, n ≤ 12 ∧ i = .int .u64 n ∧ Below w.heap.size w wx) (fun i _ => (12 - intOf i).toNat)
                  case atStart => exact ⟨0, by decide, rfl, hB⟩
                  case round =>
                    clear hB
                    obtain ⟨n, hn0, hi, hB⟩ := hrel
                    subst hi
                    by_cases hn2 : n = 12
                    · have hn3 : ¬ (n : Int) < 12 := by omega
                      clear hn0 hn2
                      have hmk : ∀ w, (Instr.makeSlice 22 (.int .i64 32) (.int .i64 32)).run Tryz.prog w = .ok (.slice (some ⟨w.heap.size, 0, none⟩) 32 32) (w.alloc (.cells (byV 32 (fun _ => 0)) 5)) := fun _ => by kernel_rfl
                      go_wp2_with fail
                      refine (hRk.out ⟨9223372036854775808, 18446744073709551615, 4503599627370496, 0, 0⟩ ⟨0, 0, 0, 0, 0⟩ (by unfold Fe.W; decide) w0_w _).mono ?_
                      rintro q w1 ⟨rfl, hbx⟩
                      replace hB := hB.trans (hbx.mono hB.size)
                      clear hbx
                      go_wp2_with fail
                      refine (hPw.out ⟨18446744073709551615, 0, 0, 0, 0⟩ ⟨9223372036854775808, 0, 0, 0, 0⟩ (by unfold Fe.W; decide) (by unfold Fe.W; decide) _).mono ?_
                      rintro q w2 ⟨rfl, hbx⟩
                      replace hB := hB.trans (hbx.mono hB.size)
                      clear hbx
                      go_wp2_with fail
                      refine (gets_0 _).mono ?_
                      rintro q w3 ⟨rfl, hbx⟩
                      replace hB := hB.trans (hbx.mono hB.size)
                      clear hbx
                      go_wp2_with fail
                      clear hmk
                      refine (gets_s w3.heap.size 0 32 32 (fun _ => 0) (fun _ => by decide) _ (Blk.new w3 5 (byV 32 (fun _ => 0))).lt (byV_cell (Blk.new w3 5 (byV 32 (fun _ => 0))))).mono ?_
                      rintro q w4 ⟨rfl, hbx⟩
                      replace hB := (hB.alloc hB.size (.cells (byV 32 (fun _ => 0)) 5)).trans (hbx.mono (hB.alloc hB.size _).size)
                      clear hbx
                      go_wp2_with fail
                      refine (awake_c _).mono ?_
                      rintro q w5 ⟨rfl, hbx⟩
                      replace hB := hB.trans (hbx.mono hB.size)
                      clear hbx
                      go_wp2
                      go_returns
                      exact ⟨rfl, hB⟩
                    · have hn3 : (n : Int) < 12 := by omega
                      have hn4 : (0 : Int) ≤ (n : Int) := by omega
                      have hw1 : IntKind.u64.wrap ((n : Int) + 1) = (n : Int) + 1 := by rw [IntKind.wrap_u64, Int.emod_eq_of_lt (by omega) (by omega)]
                      have hWn : Fe.W ⟨(n : Int), 0, 0, 0, 0⟩ := by simp [Fe.W]; omega
                      have hWm : Fe.W ⟨(n : Int) + 1, 0, 0, 0, 0⟩ := by simp [Fe.W]; omega
                      obtain ⟨y, hy, hWy⟩ : ∃ y, y = Fe.subE ⟨0, 0, 0, 0, 0⟩ ⟨(n : Int), 0, 0, 0, 0⟩ ∧ Fe.W y := ⟨_, rfl, Fe.subE_w _ _⟩
                      have hNg : ∀ w, Calls Tryz.prog 19 #[.agg #[.int .u64 (n : Int), .int .u64 0, .int .u64 0, .int .u64 0, .int .u64 0]] w (PostE y w) := fun w => by rw [hy]; exact neg_E ⟨(n : Int), 0, 0, 0, 0⟩ w
                      replace hNg := Lib.hid hNg
                      replace hWn := Lib.hid hWn
                      replace hWm := Lib.hid hWm
                      replace hWy := Lib.hid hWy
                      clear hy
                      go_wp2_with fail
                      refine (small_v (n : Int) _).mono ?_
                      rintro q w1 ⟨rfl, hbx⟩
                      replace hB := hB.trans (hbx.mono hB.size)
                      clear hbx
                      go_wp2_with fail
                      refine (one_v _).mono ?_
                      rintro q w2 ⟨rfl, hbx⟩
                      replace hB := hB.trans (hbx.mono hB.size)
                      clear hbx
                      go_wp2_with fail
                      refine (hPw.out ⟨(n : Int), 0, 0, 0, 0⟩ ⟨1, 0, 0, 0, 0⟩ hWn.out w1_w _).mono ?_
                      rintro q w3 ⟨rfl, hbx⟩
                      replace hB := hB.trans (hbx.mono hB.size)
                      clear hbx
                      go_wp2_with fail
                      refine (one_v _).mono ?_
                      rintro q w4 ⟨rfl, hbx⟩
                      replace hB := hB.trans (hbx.mono hB.size)
                      clear hbx
                      go_wp2_with fail
                      refine (small_v (n : Int) _).mono ?_
                      rintro q w5 ⟨rfl, hbx⟩
                      replace hB := hB.trans (hbx.mono hB.size)
                      clear hbx
                      go_wp2_with fail
                      refine (hPw.out ⟨1, 0, 0, 0, 0⟩ ⟨(n : Int), 0, 0, 0, 0⟩ w1_w hWn.out _).mono ?_
                      rintro q w6 ⟨rfl, hbx⟩
                      replace hB := hB.trans (hbx.mono hB.size)
                      clear hbx
                      go_wp2_with fail
                      refine (small_v (n : Int) _).mono ?_
                      rintro q w7 ⟨rfl, hbx⟩
                      replace hB := hB.trans (hbx.mono hB.size)
                      clear hbx
                      go_wp2_with fail
                      refine (hNg.out _).mono ?_
                      rintro q w8 ⟨rfl, hbx⟩
                      replace hB := hB.trans (hbx.mono hB.size)
                      clear hbx
                      go_wp2_with fail
                      refine (small_v ((n : Int) + 1) _).mono ?_
                      rintro q w9 ⟨rfl, hbx⟩
                      replace hB := hB.trans (hbx.mono hB.size)
                      clear hbx
                      go_wp2_with fail
                      refine (hPw.out y ⟨(n : Int) + 1, 0, 0, 0, 0⟩ hWy.out hWm.out _).mono ?_
                      rintro q w10 ⟨rfl, hbx⟩
                      replace hB := hB.trans (hbx.mono hB.size)
                      clear hbx
                      go_wp2
                      exact ⟨⟨n + 1, by omega, by simp, hB⟩, by simp [intOf]; omega⟩
                · have hz3 : z < 19 := by omega
                  clear hz1 hz2
                  go_wp2_with fail
                  refine (edge_B z (by omega) (by omega) _).mono ?_
                  rintro q w1 ⟨gb, hgb, rfl, hBb, hb1⟩
                  have hlb : w.heap.size ≤ gb := Nat.le_trans hB.size hgb
                  replace hB := hB.trans (hb1.mono hB.size)
                  clear hb1 hgb
                  go_wp2_with fail
                  refine (edge_B z (by omega) (by omega) _).mono ?_
                  rintro q w2 ⟨gc, hgc, rfl, hBc, hb2⟩
                  have hne : gb ≠ gc := Nat.ne_of_lt (Nat.lt_of_lt_of_le hBb.lt hgc)
                  have hlc : w.heap.size ≤ gc := Nat.le_trans hB.size hgc
                  replace hBb := hBb.below hb2
                  replace hB := hB.trans (hb2.mono hB.size)
                  clear hb2 hgc
                  have c31 := hBc.cell 31
                  rw [byV_get _ _ _ (by decide)] at c31
                  have fc := fun j => hBc.frozen j
                  go_wp2_with fail
                  clear c31 fc
                  refine calls_at (fun W0 hW => ?_)
                  replace hBc := hBc.set_ 31 (.int .u8 255)
                  rw [byV_set31, ← hW] at hBc
                  replace hBb := hBb.far (p := ⟨gc, 31, none⟩) hne (.int .u8 255)
                  rw [← hW] at hBb
                  replace hB := hB.setCell (p := ⟨gc, 31, none⟩) hlc (.int .u8 255)
                  rw [← hW] at hB
                  clear hW
                  refine (gets_s gb 0 32 32 (edgeB z) (edge_range z) W0 hBb.lt (byV_cell hBb)).mono ?_
                  rintro q w3 ⟨rfl, hb3⟩
                  replace hBb := hBb.below hb3
                  replace hBc := hBc.below hb3
                  replace hB := hB.trans (hb3.mono hB.size)
                  clear hb3
                  go_wp2_with fail
                  refine (gets_s gc 0 32 32 (up31 (edgeB z)) (up31_range (edge_range z)) w3 hBc.lt (byV_cell hBc)).mono ?_
                  rintro q w4 ⟨rfl, hb4⟩
                  replace hBb := hBb.below hb4
                  replace hB := hB.trans (hb4.mono hB.size)
                  clear hb4
                  clear hBc
                  go_wp2_with fail
                  refine (gets_s gb 1 31 31 (fun j => edgeB z (1 + j)) (fun j => edge_range z _) w4 hBb.lt (byV_cell1 hBb)).mono ?_
                  rintro q w5 ⟨rfl, hb5⟩
                  replace hBb := hBb.below hb5
                  replace hB := hB.trans (hb5.mono hB.size)
                  clear hb5
                  have hR5 : RowB (w5.alloc (.cells #[.int .u8 0] 5)) gb 32 32 (edgeB z) := rowB_byV (hBb.alloc _)
                  have hnw := new1_cell w5 (edgeB z)
                  replace hnw := Lib.hid hnw
                  have hB5 := hB.alloc hB.size (.cells #[.int .u8 0] 5)
                  go_wp2_with (refine wpList_appW rfl rfl rfl hR5 rfl (up32 (edgeB z)) (fun i hi => up32_lt hi) hnw.out (by decide) ?_; intro g' c' w6 hR6 hgr6 hat6)
                  replace hB := hB5.grown hgr6 hB5.size (fun k h => by injection h with h; rw [← h]; exact hlb)
                  clear hB5 hR5 hnw hgr6 hat6
                  refine (gets_s g' 0 33 c' (up32 (edgeB z)) (up32_range (edge_range z)) w6 hR6.lt (fun j hj => by rw [Nat.zero_add]; exact hR6.cell j hj)).mono ?_
                  rintro q w7 ⟨rfl, hb7⟩
                  replace hB := hB.trans (hb7.mono hB.size)
                  clear hb7
                  go_wp2
                  exact ⟨⟨z + 1, by omega, by omega, rfl, hB⟩, by simp [intOf]; omega⟩
            · have he0 : (0 : Int) ≤ (e : Int) := by omega
              have he1 : (e : Int) < 200 := by omega
              have he3 : e < 200 := by omega
              clear he he2
              obtain ⟨d, hd⟩ : ∃ d, d = (e + 40) % 200 := ⟨_, rfl⟩
              have hd3 : d < 200 := by omega
              have hw1 : IntKind.i64.wrap ((e : Int) + 40) = (e : Int) + 40 := IntWalk.i64_in _ (by omega)
              have hw4 : Int.tmod ((e : Int) + 40) 200 = (d : Int) := by rw [Int.tmod_eq_emod_of_nonneg (by omega)]; omega
              have hd0 : (0 : Int) ≤ (d : Int) := by omega
              have hd1 : (d : Int) < 200 := by omega
              have cP1 : ∀ w, Calls Tryz.prog 15 #[aggx x e, aggx x d] w (PostV (.bool true) w) := fun w => hPw.out (elx x e) (elx x d) (elx_w hx e) (elx_w hx d) w
              have cP2 : ∀ w, Calls Tryz.prog 15 #[aggx x e, .agg #[.int .u64 1, .int .u64 0, .int .u64 0, .int .u64 0, .int .u64 0]] w (PostV (.bool true) w) := fun w => hPw.out (elx x e) ⟨1, 0, 0, 0, 0⟩ (elx_w hx e) w1_w w
              have cP3 : ∀ w, Calls Tryz.prog 15 #[.agg #[.int .u64 0, .int .u64 0, .int .u64 0, .int .u64 0, .int .u64 0], aggx x e] w (PostV (.bool true) w) := fun w => hPw.out ⟨0, 0, 0, 0, 0⟩ (elx x e) w0_w (elx_w hx e) w
              have cP4 : ∀ w, Calls Tryz.prog 15 #[aggx x e, .agg #[.int .u64 0, .int .u64 0, .int .u64 0, .int .u64 0, .int .u64 0]] w (PostV (.bool true) w) := fun w => hPw.out (elx x e) ⟨0, 0, 0, 0, 0⟩ (elx_w hx e) w0_w w
              have cO := one_v
              unfold aggx at cP1 cP2 cP3 cP4
              replace cP1 := Lib.hid cP1
              replace cP2 := Lib.hid cP2
              replace cP3 := Lib.hid cP3
              replace cP4 := Lib.hid cP4
              replace cO := Lib.hid cO
              have hS0 := hS.drew
              clear hd hS
              go_wp2
              go_region_held3 (fun w' => (w'.cell? ⟨ga, e * 5, none⟩ = some (.int .u64 (x (e * 5))) ∧ w'.cell? ⟨ga, e * 5 + 1, none⟩ = some (.int .u64 (x (e * 5 + 1))) ∧ w'.cell? ⟨ga, e * 5 + 2, none⟩ = some (.int .u64 (x (e * 5 + 2))) ∧ w'.cell? ⟨ga, e * 5 + 3, none⟩ = some (.int .u64 (x (e * 5 + 3))) ∧ w'.cell? ⟨ga, e * 5 + 4, none⟩ = some (.int .u64 (x (e * 5 + 4)))) ∧ (w'.cell? ⟨ga, d * 5, none⟩ = some (.int .u64 (x (d * 5))) ∧ w'.cell? ⟨ga, d * 5 + 1, none⟩ = some (.int .u64 (x (d * 5 + 1))) ∧ w'.cell? ⟨ga, d * 5 + 2, none⟩ = some (.int .u64 (x (d * 5 + 2))) ∧ w'.cell? ⟨ga, d * 5 + 3, none⟩ = some (.int .u64 (x (d * 5 + 3))) ∧ w'.cell? ⟨ga, d * 5 + 4, none⟩ = some (.int .u64 (x (d * 5 + 4))))) (first | exact ⟨hS0.el e he3, hS0.el d hd3⟩ | exact ⟨hS1.el e he3, hS1.el d hd3⟩ | exact ⟨hS2.el e he3, hS2.el d hd3⟩ | exact ⟨hS3.el e he3, hS3.el d hd3⟩ | exact ⟨hS4.el e he3, hS4.el d hd3⟩ | exact ⟨hS5.el e he3, hS5.el d hd3⟩) (first | (go_at_call 15; refine (cP1.out _).mono ?_; rintro q w1 ⟨rfl, hb1⟩; have hS1 := hS0.after hb1; clear cP1 hS0 hb1) | (go_at_call 16; refine (cO.out _).mono ?_; rintro q w2 ⟨rfl, hb2⟩; have hS2 := hS1.after hb2; clear cO hS1 hb2) | (go_at_call 15; refine (cP2.out _).mono ?_; rintro q w3 ⟨rfl, hb3⟩; have hS3 := hS2.after hb3; clear cP2 hS2 hb3) | (go_at_call 15; refine (cP3.out _).mono ?_; rintro q w4 ⟨rfl, hb4⟩; have hS4 := hS3.after hb4; clear cP3 hS3 hb4) | (go_at_call 15; refine (cP4.out _).mono ?_; rintro q w5 ⟨rfl, hb5⟩; have hS5 := hS4.after hb5; clear cP4 hS4 hb5))
              have hS6 : AllS w ga x w5 := hS5
              clear hS5 hw1 hw4
              go_wp2
              exact ⟨⟨e + 9, by omega, rfl, hS6⟩, by simp [intOf]; omega⟩
        · have hm0 : (0 : Int) ≤ (m : Int) := by omega
          have hm1 : (m : Int) < 200 := by omega
          have hm3 : m < 200 := by omega
          clear hm hm2
          go_wp2
          go_loopw [6] (fun i wx => ∃ k : Nat, k ≤ 7 ∧ i = .int .i64 k ∧ AllS w ga x wx) (fun i _ => (7 - intOf i).toNat)
          case atStart => exact ⟨0, by decide, rfl, hS⟩
          case round =>
            clear hS
            obtain ⟨k, hk, hi, hS⟩ := hrel
            subst hi
            by_cases hk2 : k = 7
            · subst hk2
              go_wp2
              exact ⟨⟨m + 1, by omega, rfl, hS⟩, by simp [intOf]; omega⟩
            · have hk0 : (0 : Int) ≤ (k : Int) := by omega
              have hk1 : (k : Int) < 7 := by omega
              have hk3 : k < 7 := by omega
              clear hk hk2
              have cm := hS.el m hm3
              obtain ⟨d, hd⟩ : ∃ d, d = (m * 13 + k * 31) % 200 := ⟨_, rfl⟩
              have hd3 : d < 200 := by omega
              have cd := hS.el d hd3
              have hlt := hS.lt
              have hw1 : IntKind.i64.wrap ((m : Int) * 13) = (m : Int) * 13 := IntWalk.i64_in _ (by omega)
              have hw2 : IntKind.i64.wrap ((k : Int) * 31) = (k : Int) * 31 := IntWalk.i64_in _ (by omega)
              have hw3 : IntKind.i64.wrap ((m : Int) * 13 + (k : Int) * 31) = (m : Int) * 13 + (k : Int) * 31 := IntWalk.i64_in _ (by omega)
              have hw4 : Int.tmod ((m : Int) * 13 + (k : Int) * 31) 200 = (d : Int) := by rw [Int.tmod_eq_emod_of_nonneg (by omega)]; omega
              have hd0 : (0 : Int) ≤ (d : Int) := by omega
              have hd1 : (d : Int) < 200 := by omega
              clear hd
              have cR : ∀ w, Calls Tryz.prog 14 #[aggx x m, aggx x d] w (PostV (.bool true) w) := fun w => hRk.out (elx x m) (elx x d) (elx_w hx m) (elx_w hx d) w
              unfold aggx at cR
              replace cR := Lib.hid cR
              go_wp2
              go_region_held3 (fun w' => (w'.cell? ⟨ga, m * 5, none⟩ = some (.int .u64 (x (m * 5))) ∧ w'.cell? ⟨ga, m * 5 + 1, none⟩ = some (.int .u64 (x (m * 5 + 1))) ∧ w'.cell? ⟨ga, m * 5 + 2, none⟩ = some (.int .u64 (x (m * 5 + 2))) ∧ w'.cell? ⟨ga, m * 5 + 3, none⟩ = some (.int .u64 (x (m * 5 + 3))) ∧ w'.cell? ⟨ga, m * 5 + 4, none⟩ = some (.int .u64 (x (m * 5 + 4)))) ∧ (w'.cell? ⟨ga, d * 5, none⟩ = some (.int .u64 (x (d * 5))) ∧ w'.cell? ⟨ga, d * 5 + 1, none⟩ = some (.int .u64 (x (d * 5 + 1))) ∧ w'.cell? ⟨ga, d * 5 + 2, none⟩ = some (.int .u64 (x (d * 5 + 2))) ∧ w'.cell? ⟨ga, d * 5 + 3, none⟩ = some (.int .u64 (x (d * 5 + 3))) ∧ w'.cell? ⟨ga, d * 5 + 4, none⟩ = some (.int .u64 (x (d * 5 + 4))))) (first | exact ⟨hS1.el m hm3, hS1.el d hd3⟩ | exact ⟨cm, cd⟩) (first | (go_at_call 14; refine (cR.out _).mono ?_; rintro e w1 ⟨rfl, hb1⟩; have hS1 := hS.drew.after hb1))
              have hS2 : AllS w ga x w1 := hS1
              clear hS1 hb1 cm cd hlt hw1 hw2 hw3 hw4 hS
              go_wp2
              exact ⟨⟨k + 1, by omega, rfl, hS2⟩, by simp [intOf]; omega⟩
    · have ha0 : (0 : Int) ≤ (a : Int) := by omega
      have ha1 : (a : Int) < 10 := by omega
      have ha2 : a < 10 := by omega
      clear ha ha10
      go_wp2
      obtain ⟨wo, rfl⟩ : ∃ wo : World, wo = wr := ⟨_, rfl⟩
      go_loopw [2, 4] (fun v i wx => ∃ k : Nat, k ≤ 10 ∧ i = .int .i64 k ∧ AllR w w.heap.size p v (20 * a + 2 * k) wx) (fun _ i _ => (10 - intOf i).toNat)
      case atStart => exact ⟨0, by decide, rfl, hI⟩
      case round =>
        clear hI
        obtain ⟨k, hk, hi, hI⟩ := hrel
        subst hi
        by_cases hk10 : k = 10
        · subst hk10
          go_wp2
          exact ⟨⟨a + 1, by omega, rfl, hI⟩, by simp [intOf]; omega⟩
        · have hk0 : (0 : Int) ≤ (k : Int) := by omega
          have hk1 : (k : Int) < 10 := by omega
          have hk2 : k < 10 := by omega
          clear hk hk10
          obtain ⟨hP, hb, xs, hrow, hxs⟩ := hI
          have ca := hP.cell a
          have ck := hP.cell k
          rw [ptV_get _ _ ha2] at ca
          rw [ptV_get _ _ hk2] at ck
          go_wp2
          have hlt := hP.lt
          have hne : some w.heap.size ≠ u2.ownBlock := ownsRow_ne_low hrow (Nat.lt_succ_self _)
          have hm1 : 20 * a + 2 * k ≤ 1000 := by omega
          have hlo : ∀ g, u2.ownBlock = some g → w.heap.size ≤ g := fun g h => Nat.le_of_succ_le (hrow.lt g h).1
          replace hrow := Lib.hid hrow
          replace hb := Lib.hid hb
          replace hne := Lib.hid hne
          clear ca ck
          go_region_held3 (fun w' => w'.cell? ⟨w.heap.size, a, none⟩ = some (.int .u64 (p a)) ∧ w'.cell? ⟨w.heap.size, k, none⟩ = some (.int .u64 (p k))) (first | exact ptS hP ha2 hk2 | exact ptS (hP.alloc _) ha2 hk2 | exact ptS hP1 ha2 hk2) (first | (refine step_app hrow.out hm1 hlt rfl rfl rfl rfl ?_; intro g cap w1 hown hgr; have hP1 : Blk w1 w.heap.size 25 (ptV p) := Blk.grown hP hgr hne.out; replace hown := Lib.hid hown; replace hgr := Lib.hid hgr))
          have hP1 : Blk w1 w.heap.size 25 (ptV p) := Blk.grown hP hgr.out hne.out
          have hb1 : Below w.heap.size w w1 := hb.out.grown hgr.out hb.out.size (fun k h => hlo k h)
          clear hP hb hgr hne hrow
          go_wp2
          exact ⟨⟨k + 1, by omega, rfl, hP1, hb1, _, hown.out, xs_new hxs (hpr a) (hpr k)⟩, by simp [intOf]; omega⟩
end Go.Proofs.YtjejibojcjfleaaGreat
namespace Go.Proofs.YtjejibojcjfleaaGreat
open Go.ChangeShapes Go.WideShapes Go.ChangeAt Go.RowKit

theorem ownN_ : ownKnob Tryz.prog.godebug = none := by kernel_rfl
theorem boolN_under : Tryz.prog.underlying 4 = some .bool := by kernel_rfl

set_option maxRecDepth 100000 in
theorem fieldNumbers_lifted (os : Os) (started : os.Started) (H : Type) (enc : TypeId × Value → H) :
    ReturnsInHanded {} Tryz.checked os 4 .any (Rows.fieldNumbersSpec.pre6 enc Tryz.prog Tryz.f4 Rows.fieldNumbersRow.domain false) (Rows.fieldNumbersSpec.post enc Tryz.prog Tryz.f4 false true false false) := by
  refine returnsInHanded_of_change (C := Tryz.checked) ownN_ started (by kernel_rfl) Tryz.func4
    (ChangeSpec.witness6 (enc := enc) (C := Tryz.checked) false ⟨#[], #[], []⟩ 8 (by kernel_rfl) (by kernel_rfl) (by kernel_rfl) (by kernel_rfl)) ?_
  intro W base args ds gs before hval0 hW hcnd _
  have hW' := hW
  obtain ⟨p, q, hA0, hV, rfl, hfz, hnd⟩ := hW
  have hA : DataW.TrodAll enc Tryz.prog W 0 (fun _ => true) true Tryz.f4.params.toList args.toList ds p := hA0
  rw [Tryz.params4] at hA
  obtain ⟨rfl, rfl, rfl⟩ := trodAll_none hA
  obtain ⟨rfl, rfl⟩ := trodVars_none hV
  refine (numbers_g fieldReckons_c fieldPowers_c W).mono fun e W' ⟨he, hb⟩ => ?_
  subst he
  exact ⟨_, rfl, post_of_below (pa := []) (pv := []) hW' (fun _ _ _ => trodAll_mk1 (shut_bool boolN_under true)) (fun sp _ => rfl) (fun _ _ => rfl) rfl hb
    (ok_one (by kernel_rfl) rfl (okWide_bool_mk boolN_under true))⟩

theorem fieldNumbers_holds : Rows.FieldNumbersSaid :=
  OpenClaim.holds_of_wide 4 Tryz.f4 rfl rfl rfl rfl rfl rfl rfl ⟨rfl, rfl, rfl, rfl, rfl⟩ rfl rfl rfl rfl rfl (by kernel_rfl) Tryz.func4 (by kernel_rfl)
    (of_decide_eq_true (by kernel_rfl)) (by unfold Func.isWrapper; rw [if_neg (by decide +kernel)]; exact ⟨rfl, rfl⟩)
    (fun os started H enc _ => fieldNumbers_lifted os started H enc)
end Go.Proofs.YtjejibojcjfleaaGreat
