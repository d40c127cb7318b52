/- The law FieldGets, walked. -/
import Derived.Test.YtjejibojcjfleaaGreatGc
import Derived.Test.YtjejibojcjfleaaGreatGr
import Derived.Test.YtjejibojcjfleaaGreatKe
import Derived.Test.YtjejibojcjfleaaGreatQe
import Derived.Test.YtjejibojcjfleaaGreatAw
namespace Go.Proofs.YtjejibojcjfleaaGreat
open Go.RowKit
set_option maxRecDepth 20000 in
set_option maxRecDepth 20000 in
set_option maxHeartbeats 2000000 in
theorem gets_long (p : Option Addr) (n c : Nat) (hn : 100 < n) (w : World) : Calls Tryz.prog 3 #[.slice p n c] w (PostV (.bool true) w) := by
  have haw := awake_c
  replace haw := Lib.hid haw
  have hn2 : (100 : Int) < (n : Int) := by omega
  go_enter Tryz.func3, Tryz.ntmps3
  go_wp2_with fail
  refine (haw.out _).mono ?_
  rintro e w1 ⟨rfl, hb⟩
  go_wp2
  go_returns
  exact ⟨rfl, hb⟩
set_option maxRecDepth 20000 in
set_option maxRecDepth 20000 in
set_option maxHeartbeats 4000000 in
theorem gets_F (p : Option Addr) (n c : Nat) (b : Nat → Int) (hn : n ≤ 100) (N : Nat → Int) (w : World)
    (hL : Calls Tryz.prog 6 #[.slice p n c] w (PostLent n b w))
    (hG : ∀ w' g, RowB w' g (n + 12) (n + 12) (lentF n b) → Calls Tryz.prog 7 #[.slice (some ⟨g, 0, none⟩) n (n + 12)] w' fun e w'' => e = .returned (.tuple #[.agg #[.int .u64 0, .int .u64 0, .int .u64 0, .int .u64 0, .int .u64 0], .bool false]) ∧ Below w'.heap.size w' w'')
    (hD : ∀ w', Below w.heap.size w w' → Calls Tryz.prog 8 #[.slice p n c] w' (PostR2 N false w'))
    (hK : ∀ w' g, RowB w' g (n + 12) (n + 12) (lentF n b) → Below w.heap.size w w' → Calls Tryz.prog 9 #[.slice (some ⟨g, 0, none⟩) n (n + 12), .slice p n c] w' fun e w'' => e = .returned (.bool true) ∧ Below w'.heap.size w' w'') :
    Calls Tryz.prog 3 #[.slice p n c] w (PostV (.bool true) w) := by
  have haw := awake_c
  replace haw := Lib.hid haw
  replace hL := Lib.hid hL
  replace hG := Lib.hid hG
  replace hD := Lib.hid hD
  replace hK := Lib.hid hK
  have hn2 : (n : Int) ≤ 100 := by omega
  go_enter Tryz.func3, Tryz.ntmps3
  go_wp2_with fail
  refine hL.out.mono ?_
  rintro e w1 ⟨gi, rfl, hgi, hRi, hb1⟩
  go_wp2_with fail
  refine (hG.out w1 gi hRi).mono ?_
  rintro e w2 ⟨rfl, hb2⟩
  replace hRi := hRi.below hb2
  replace hb1 := hb1.trans (hb2.mono hb1.size)
  clear hb2 hL hG
  go_wp2_with fail
  refine calls_at (fun W0 hW => ?_)
  have hE : Blk W0 w2.heap.size 27 #[.int .u64 0, .int .u64 0, .int .u64 0, .int .u64 0, .int .u64 0] := by rw [hW]; exact Blk.new _ _ _
  replace hRi : RowB W0 gi (n + 12) (n + 12) (lentF n b) := by rw [hW]; exact hRi.below ((Below.refl _ _).alloc (Nat.le_refl _) _)
  replace hb1 : Below w.heap.size w W0 := by rw [hW]; exact hb1.alloc hb1.size _
  clear hW
  generalize w2.heap.size = ge at *
  refine (hD.out W0 hb1).mono ?_
  rintro e w3 ⟨rfl, hb3⟩
  replace hRi := hRi.below hb3
  replace hE := hE.below hb3
  replace hb1 := hb1.trans (hb3.mono hb1.size)
  clear hb3 hD
  have hRi' := hRi.below ((Below.refl w3.heap.size w3).alloc (Nat.le_refl _) (Obj.cells (av fun _ => 0) 31))
  have hE' := hE.alloc (Obj.cells (av fun _ => 0) 31)
  have hb1' := hb1.alloc hb1.size (Obj.cells (av fun _ => 0) 31)
  have hilt := hRi.lt
  have helt := hE.lt
  go_upto_region 6 with (refine stN (old := fun _ => 0) rfl rfl rfl rfl (Blk.new _ _ _) ?_; intro w4 hN4 hgr hsz)
  have hne : gi ≠ w3.heap.size := by omega
  have hne2 : ge ≠ w3.heap.size := by omega
  have hR4 := hRi'.grown hgr (by simpa using hne)
  have hE4 := hE'.grown hgr (by simpa using hne2)
  have hb4 := hb1'.grown hgr hb1'.size (fun k h => by injection h with h; have := hb1.size; omega)
  clear hRi hE hb1 hRi' hE' hb1' hgr hsz hilt helt hne hne2 hN4
  replace hE4 := Lib.hid hE4
  go_wp2_with fail
  refine (hK.out w4 gi hR4 hb4).mono ?_
  rintro e w5 ⟨rfl, hb5⟩
  replace hE4 := hE4.out.below hb5
  replace hb4 := hb4.trans (hb5.mono hb4.size)
  clear hb5 hR4 hK
  obtain ⟨a0, a1, a2, a3, a4⟩ := blk5 hE4
  have heq : ∀ w, (binOp .eql 27 (.agg #[.int .u64 0, .int .u64 0, .int .u64 0, .int .u64 0, .int .u64 0]) (.agg #[.int .u64 0, .int .u64 0, .int .u64 0, .int .u64 0, .int .u64 0])).run Tryz.prog w = .ok (.bool true) w := fun w => (run_eql_E ⟨0, 0, 0, 0, 0⟩ ⟨0, 0, 0, 0, 0⟩ w).trans (by rw [show eqE ⟨0, 0, 0, 0, 0⟩ ⟨0, 0, 0, 0, 0⟩ = true from rfl])
  clear hE4
  go_wp2_with fail
  refine (haw.out _).mono ?_
  rintro e w6 ⟨rfl, hb6⟩
  go_wp2
  go_returns
  exact ⟨rfl, hb4.trans (hb6.mono hb4.size)⟩
theorem rowB_byV {w : World} {g : Nat} {P : Nat → Int} (h : Blk w g 5 (byV 32 P)) : RowB w g 32 32 P := ⟨_, h, Nat.le_refl _, by unfold maxLen; omega, rfl, rfl⟩
set_option maxRecDepth 20000 in
set_option maxRecDepth 20000 in
set_option maxHeartbeats 4000000 in
theorem gets_T (p : Option Addr) (c : Nat) (b : Nat → Int) (e : Fe.E) (N P : Nat → Int) (w : World)
    (hL : Calls Tryz.prog 6 #[.slice p 32 c] w (PostLent 32 b w))
    (hG : ∀ w' g, RowB w' g (32 + 12) (32 + 12) (lentF 32 b) → Calls Tryz.prog 7 #[.slice (some ⟨g, 0, none⟩) 32 (32 + 12)] w' fun e2 w'' => e2 = .returned (.tuple #[.agg #[.int .u64 e.a0, .int .u64 e.a1, .int .u64 e.a2, .int .u64 e.a3, .int .u64 e.a4], .bool true]) ∧ Below w'.heap.size w' w'')
    (hD : ∀ w', Below w.heap.size w w' → Calls Tryz.prog 8 #[.slice p 32 c] w' (PostR2 N true w'))
    (hK : ∀ w' g, RowB w' g (32 + 12) (32 + 12) (lentF 32 b) → Below w.heap.size w w' → Calls Tryz.prog 9 #[.slice (some ⟨g, 0, none⟩) 32 (32 + 12), .slice p 32 c] w' fun e w'' => e = .returned (.bool true) ∧ Below w'.heap.size w' w'')
    (hI : ∀ w', Calls Tryz.prog 10 #[.agg #[.int .u64 e.a0, .int .u64 e.a1, .int .u64 e.a2, .int .u64 e.a3, .int .u64 e.a4], .agg (av N)] w' (PostV (.bool true) w'))
    (hP : ∀ w', Calls Tryz.prog 12 #[.agg #[.int .u64 e.a0, .int .u64 e.a1, .int .u64 e.a2, .int .u64 e.a3, .int .u64 e.a4]] w' (PostB P w'))
    (hS : ∀ w' g, Blk w' g 5 (byV 32 P) → Below w.heap.size w w' → Calls Tryz.prog 11 #[.slice (some ⟨g, 0, none⟩) 32 32, .slice p 32 c] w' (PostV (.bool true) w')) :
    Calls Tryz.prog 3 #[.slice p 32 c] w (PostV (.bool true) w) := by
  have haw := awake_c
  replace haw := Lib.hid haw
  replace hL := Lib.hid hL
  replace hG := Lib.hid hG
  replace hD := Lib.hid hD
  replace hK := Lib.hid hK
  replace hI := Lib.hid hI
  replace hP := Lib.hid hP
  replace hS := Lib.hid hS
  go_enter Tryz.func3, Tryz.ntmps3
  go_wp2_with fail
  refine hL.out.mono ?_
  rintro e2 w1 ⟨gi, rfl, hgi, hRi, hb1⟩
  go_wp2_with fail
  refine (hG.out w1 gi hRi).mono ?_
  rintro e2 w2 ⟨rfl, hb2⟩
  replace hRi := hRi.below hb2
  replace hb1 := hb1.trans (hb2.mono hb1.size)
  clear hb2 hL hG
  go_wp2_with fail
  refine calls_at (fun W0 hW => ?_)
  have hE : Blk W0 w2.heap.size 27 #[.int .u64 e.a0, .int .u64 e.a1, .int .u64 e.a2, .int .u64 e.a3, .int .u64 e.a4] := by rw [hW]; exact Blk.new _ _ _
  replace hRi : RowB W0 gi (32 + 12) (32 + 12) (lentF 32 b) := by rw [hW]; exact hRi.below ((Below.refl _ _).alloc (Nat.le_refl _) _)
  replace hb1 : Below w.heap.size w W0 := by rw [hW]; exact hb1.alloc hb1.size _
  clear hW
  generalize w2.heap.size = ge at *
  refine (hD.out W0 hb1).mono ?_
  rintro e2 w3 ⟨rfl, hb3⟩
  replace hRi := hRi.below hb3
  replace hE := hE.below hb3
  replace hb1 := hb1.trans (hb3.mono hb1.size)
  clear hb3 hD
  have hRi' := hRi.below ((Below.refl w3.heap.size w3).alloc (Nat.le_refl _) (Obj.cells (av fun _ => 0) 31))
  have hE' := hE.alloc (Obj.cells (av fun _ => 0) 31)
  have hb1' := hb1.alloc hb1.size (Obj.cells (av fun _ => 0) 31)
  have hilt := hRi.lt
  have helt := hE.lt
  go_upto_region 6 with (refine stN (old := fun _ => 0) rfl rfl rfl rfl (Blk.new _ _ _) ?_; intro w4 hN4 hgr hsz)
  have hne : gi ≠ w3.heap.size := by omega
  have hne2 : ge ≠ w3.heap.size := by omega
  have hR4 := hRi'.grown hgr (by simpa using hne)
  have hE4 := hE'.grown hgr (by simpa using hne2)
  have hb4 := hb1'.grown hgr hb1'.size (fun k h => by injection h with h; have := hb1.size; omega)
  clear hRi hE hb1 hRi' hE' hb1' hgr hsz hilt helt hne hne2
  replace hE4 := Lib.hid hE4
  replace hN4 := Lib.hid hN4
  go_wp2_with fail
  refine (hK.out w4 gi hR4 hb4).mono ?_
  rintro e2 w5 ⟨rfl, hb5⟩
  replace hE4 := hE4.out.below hb5
  replace hN4 := hN4.out.below hb5
  replace hb4 := hb4.trans (hb5.mono hb4.size)
  clear hb5 hR4 hK
  obtain ⟨a0, a1, a2, a3, a4⟩ := blk5 hE4
  generalize w3.heap.size = gn at *
  have hN5 := hN4
  obtain ⟨n0, n1, n2, n3, n4, n5, n6, n7, n8, n9, n10, n11, n12, n13, n14, n15⟩ := blk16 hN5
  clear hN5 hN4
  go_upto_region 10 with (fail)
  go_region_with (first
    | (refine (hI.out _).mono ?_; rintro e2 w6 ⟨rfl, hb6⟩; have hE6 : Blk w6 ge 27 #[.int .u64 e.a0, .int .u64 e.a1, .int .u64 e.a2, .int .u64 e.a3, .int .u64 e.a4] := (fun h => Blk.below h hb6) hE4; have hbb6 : Below w.heap.size w w6 := (hb4.drew).trans (hb6.mono hb4.size); obtain ⟨x0, x1, x2, x3, x4⟩ := blk5 hE6; clear hE4 hb6)
    | (refine (hP.out _).mono ?_; rintro e2 w7 ⟨g7, hg7, rfl, hB7, hb7⟩; have hE7 : Blk w7 ge 27 #[.int .u64 e.a0, .int .u64 e.a1, .int .u64 e.a2, .int .u64 e.a3, .int .u64 e.a4] := (fun h => Blk.below h hb7) hE6; have hbb7 : Below w.heap.size w w7 := hbb6.trans (hb7.mono hbb6.size); clear hE6 hb7 hg7)
    | (refine (hS.out w7 g7 hB7 hbb7).mono ?_; rintro e2 w8 ⟨rfl, hb8⟩; have hE8 : Blk w8 ge 27 #[.int .u64 e.a0, .int .u64 e.a1, .int .u64 e.a2, .int .u64 e.a3, .int .u64 e.a4] := (fun h => Blk.below h hb8) hE7; have hbb8 : Below w.heap.size w w8 := hbb7.trans (hb8.mono hbb7.size); obtain ⟨y0, y1, y2, y3, y4⟩ := blk5 hE8; clear hE7 hb8)
    | (refine (hP.out _).mono ?_; rintro e2 w9 ⟨g9, hg9, rfl, hB9, hb9⟩; have hE9 : Blk w9 ge 27 #[.int .u64 e.a0, .int .u64 e.a1, .int .u64 e.a2, .int .u64 e.a3, .int .u64 e.a4] := (fun h => Blk.below h hb9) hE8; have hbb9 : Below w.heap.size w w9 := hbb8.trans (hb9.mono hbb8.size); have hl9 : w.heap.size ≤ g9 := Nat.le_trans hbb8.size hg9; have hs9 := hB9.lt; obtain ⟨z0, z1, z2, z3, z4⟩ := blk5 hE9; clear hE8 hb9)
    | (refine (hP.out _).mono ?_; rintro e2 w10 ⟨g10, hg10, rfl, hB10, hb10⟩; have hE10 : Blk w10 ge 27 #[.int .u64 e.a0, .int .u64 e.a1, .int .u64 e.a2, .int .u64 e.a3, .int .u64 e.a4] := (fun h => Blk.below h hb10) hE9; have hB9' : Blk w10 g9 5 (byV 32 P) := (fun h => Blk.below h hb10) hB9; have hbb10 : Below w.heap.size w w10 := hbb9.trans (hb10.mono hbb9.size); have hl10 : w.heap.size ≤ g10 := Nat.le_trans hbb9.size hg10; have hne : g9 ≠ g10 := Nat.ne_of_lt (Nat.lt_of_lt_of_le hs9 hg10); clear hE9 hb10)
    | (refine (apartBytes_c w.heap.size w10.heap.size _ g9 32 32 g10 32 32 P P _ (by simp) ((Blk.new w10 _ _).cell 0) ((Blk.new w10 _ _).cell 1) (rowB_byV (hB9'.alloc _)) (rowB_byV (hB10.alloc _)) hne hl9 hl10 (by omega) (by omega)).mono ?_; rintro e2 w11 ⟨rfl, hb11⟩; have hbb11 : Below w.heap.size w w11 := (hbb10.alloc hbb10.size _).trans hb11)
    | (refine (haw.out _).mono ?_; rintro e2 w12 ⟨rfl, hb12⟩; have hbb12 : Below w.heap.size w w12 := hbb11.trans (hb12.mono hbb11.size)))
  all_goals
    go_wp2
    go_returns
    exact ⟨rfl, hbb12⟩
end Go.Proofs.YtjejibojcjfleaaGreat
