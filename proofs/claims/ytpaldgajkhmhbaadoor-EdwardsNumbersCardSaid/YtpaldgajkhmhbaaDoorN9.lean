/- The walk of Bytes of the reference. -/
import Derived.Test.YtpaldgajkhmhbaaDoorN8
import Derived.Laws.AppendOwn
namespace Dg
/-- byte j of a number -/
def rb (n j : Nat) : Int := ((n / 256 ^ j % 256 : Nat) : Int)
theorem rb_lo (n m : Nat) : dg n m % 256 = rb n (2 * m) := by
  unfold dg rb
  rw [show (65536 : Nat) ^ m = 256 ^ (2 * m) by rw [Nat.pow_mul]]
  generalize n / 256 ^ (2 * m) = y
  omega
theorem rb_hi (n m : Nat) : dg n m / 256 = rb n (2 * m + 1) := by
  unfold dg rb
  rw [show (65536 : Nat) ^ m = 256 ^ (2 * m) by rw [Nat.pow_mul], Nat.pow_succ, ← Nat.div_div_eq_div_mul]
  generalize n / 256 ^ (2 * m) = y
  omega
end Dg
namespace Go.Proofs.YtpaldgajkhmhbaaDoor
open Go.RowKit
def bl (n m : Nat) : List Value := (List.range (2 * m)).map fun j => .int .u8 (Dg.rb n j)
theorem bl_next (n m : Nat) : bl n m ++ [.int .u8 (Dg.dg n m % 256), .int .u8 (Dg.dg n m / 256)] = bl n (m + 1) := by
  unfold bl
  rw [Dg.rb_lo, Dg.rb_hi, show 2 * (m + 1) = 2 * m + 1 + 1 by omega, List.range_succ, List.range_succ, List.map_append, List.map_append, List.append_assoc]
  rfl
theorem ownsRow_below {w w' : World} {base : Nat} {e : TypeId} {size : Nat} {v : Value} {n : Nat} {xs : List Value} (h : w.ownsRow base e size v n xs) (hb : Below w.heap.size w w') : w'.ownsRow base e size v n xs := by
  obtain ⟨hl, h⟩ := h
  refine ⟨hl, ?_⟩
  rcases h with h | ⟨g, cap, cur, h1, h2, h3, h4⟩
  · exact .inl h
  exact .inr ⟨g, cap, cur, h1, h2, (hb.block g (Array.getElem?_eq_some_iff.1 h3).1).trans h3, h4⟩
def SvP (x y : Value) : Value → World → Prop := fun v w => ∃ g, v = .slice (some ⟨g, 0, none⟩) 2 2 ∧ Blk w g 5 #[x, y]
theorem sta_svp (x y : Value) : Sta (SvP x y) := fun _ _ _ ⟨g, h1, h2⟩ hb => ⟨g, h1, h2.below hb⟩
theorem u8_info : (Tryd.prog.info? 5).map (fun i => (i.zero, i.size, i.bytes)) = some (some (.int .u8 0), 1, 1) := by kernel_rfl
theorem bs_under : Tryd.prog.underlying 22 = some (.slice 5) := by kernel_rfl
/-- a row of its own that says the bytes of n is answered -/
def PostBo (n : Nat) (w : World) (e : Ending) (w' : World) : Prop := ∃ v, e = .returned v ∧ World.ownsRow w' (w.heap.size + 1) 5 1 v 32 (bl n 16) ∧ Below w.heap.size w w'
def rbyL (A : Nat → Int) (m : Nat) (u3 : Value) (w : World) : List (Value → World → Prop) := [
  Eq1 (u3),
  Eq1 (.int .i64 m),
  Eq1 (.pointer (some ⟨w.heap.size, m, none⟩)),
  Eq1 (.int .u64 (A m)),
  Eq1 (.int .u8 (A m % 256)),
  Eq1 (.int .i64 m),
  Eq1 (.pointer (some ⟨w.heap.size, m, none⟩)),
  Eq1 (.int .u64 (A m)),
  Eq1 (.int .u64 (A m / 256)),
  Eq1 (.int .u8 (A m / 256)),
  SvP (.int .u8 (A m % 256)) (.int .u8 (A m / 256))]
theorem rbyS (A : Nat → Int) (m : Nat) (u3 : Value) (w : World) : ∀ j x' q q', (rbyL A m u3 w).getD j (fun _ _ => True) x' q → Below q.heap.size q q' → (rbyL A m u3 w).getD j (fun _ _ => True) x' q' := by
  refine sta_all _ ?_
  simp only [rbyL, List.mem_cons, forall_eq_or_imp, List.not_mem_nil, false_implies, implies_true, and_true]
  exact ⟨sta_eq _, sta_eq _, sta_eq _, sta_eq _, sta_eq _, sta_eq _, sta_eq _, sta_eq _, sta_eq _, sta_eq _, sta_svp _ _⟩

set_option maxRecDepth 20000 in
set_option maxHeartbeats 2000000 in
theorem rBytes_o (n : Nat) (w : World) : Calls Tryd.prog 67 #[.agg (av (Dg.dg n))] w (PostBo n w) := by
  have hd := Dg.dg_lt n
  have hnx := bl_next n
  have hfin : ∀ v wr, World.ownsRow wr (w.heap.size + 1) 5 1 v 32 (bl n 16) → Below w.heap.size w wr → PostBo n w (.returned v) wr := fun v wr h hb => ⟨v, rfl, h, hb⟩
  obtain ⟨BL, hBL⟩ : ∃ f, f = bl n := ⟨_, rfl⟩
  have hb0' : BL 0 = [] := by rw [hBL]; rfl
  rw [← hBL] at hnx hfin
  clear hBL
  generalize Dg.dg n = A at *
  replace hd := Lib.hid hd
  replace hnx := Lib.hid hnx
  replace hfin := Lib.hid hfin
  replace hb0' := Lib.hid hb0'
  go_enter Tryd.func67, Tryd.ntmps67
  go_wp2
  refine at_world (fun W0 hW => ?_)
  have hA : Blk W0 (w.heap.size) 33 (av A) := by rw [hW]; exact Blk.new _ _ _
  have hb0 : Below w.heap.size w W0 := by rw [hW]; go_grown
  clear hW
  go_loopw [3, 4] (fun v i wr => ∃ m : Nat, m ≤ 16 ∧ i = .int .i64 m ∧ wr.ownsRow (w.heap.size + 1) 5 1 v (2 * m) (BL m) ∧ Blk wr w.heap.size 33 (av A) ∧ Below w.heap.size w wr) (fun _ i _ => (16 - intOf i).toNat)
  case atStart => exact ⟨0, by decide, rfl, ⟨by rw [hb0'.out]; rfl, .inl ⟨rfl, rfl⟩⟩, hA, hb0⟩
  case round =>
    clear hA hb0
    obtain ⟨m, hm, hi, hO, hA, hb0⟩ := hrel
    subst hi
    by_cases h16 : m = 16
    · subst h16
      have hP := Lib.hid (hfin.out _ _ hO hb0)
      clear hm hO hA
      go_wp2
      go_returns
      exact hP.out
    have hm16 : m < 16 := by omega
    have hm0 : (0 : Int) ≤ (m : Int) := by omega
    have hm1 : (m : Int) < 16 := by omega
    have hx := hd.out m
    clear hm h16
    replace hO := Lib.hid hO
    go_wp2
    refine wp_region_grow2 11 (fun k => (Nat.ble 9 k && Nat.ble k 19)) _ [] (fun j x' q => (rbyL A m u3 w).getD j (fun _ _ => True) x' q) (fun _ => false) (fun f => #[.agg (av A), .pointer (some ⟨w.heap.size, 0, none⟩), .slice none 0 0, u3, .int .i64 m, .int .i64 m, .bool true, u7, u8, f 9, f 10, f 11, f 12, f 13, f 14, f 15, f 16, f 17, f 18, f 19, u20, undef]) (fun f => rfl) (by kernel_rfl) (by kernel_rfl) (by kernel_rfl) (by kernel_rfl) (by kernel_rfl) (rbyS _ _ _ _) (fun _ _ _ h => by cases h) ?_ ?_
    · refine steps2_cons ?_ ?_
      · intro f w1 hb hd Q hK
        clear hd
        have hK := Lib.hid hK
        go_wp2
        exact hK.out _ _ rfl (.refl _ _) nof
      refine steps2_cons ?_ ?_
      · intro f w1 hb hd Q hK
        clear hd
        have hK := Lib.hid hK
        go_wp2
        exact hK.out _ _ rfl (.refl _ _) nof
      refine steps2_cons ?_ ?_
      · intro f w1 hb hd Q hK
        have e10 : f 10 = .int .i64 m := hd.1 rfl
        clear hd
        simp only [e10] at hK
        have hK := Lib.hid hK
        go_wp2
        exact hK.out _ _ rfl (.refl _ _) nof
      refine steps2_cons ?_ ?_
      · intro f w1 hb hd Q hK
        have e11 : f 11 = .pointer (some ⟨w.heap.size, m, none⟩) := hd.1 rfl
        clear hd
        simp only [e11] at hK
        have hK := Lib.hid hK
        have c0 := (hA.below hb).cell m
        rw [av_get _ _ hm16] at c0
        go_wp2
        exact hK.out _ _ rfl (.refl _ _) nof
      refine steps2_cons ?_ ?_
      · intro f w1 hb hd Q hK
        have e12 : f 12 = .int .u64 (A m) := hd.1 rfl
        clear hd
        simp only [e12] at hK
        have hK := Lib.hid hK
        go_wp2
        exact hK.out _ _ rfl (.refl _ _) nof
      refine steps2_cons ?_ ?_
      · intro f w1 hb hd Q hK
        clear hd
        have hK := Lib.hid hK
        go_wp2
        exact hK.out _ _ rfl (.refl _ _) nof
      refine steps2_cons ?_ ?_
      · intro f w1 hb hd Q hK
        have e14 : f 14 = .int .i64 m := hd.1 rfl
        clear hd
        simp only [e14] at hK
        have hK := Lib.hid hK
        go_wp2
        exact hK.out _ _ rfl (.refl _ _) nof
      refine steps2_cons ?_ ?_
      · intro f w1 hb hd Q hK
        have e15 : f 15 = .pointer (some ⟨w.heap.size, m, none⟩) := hd.1 rfl
        clear hd
        simp only [e15] at hK
        have hK := Lib.hid hK
        have c0 := (hA.below hb).cell m
        rw [av_get _ _ hm16] at c0
        go_wp2
        exact hK.out _ _ rfl (.refl _ _) nof
      refine steps2_cons ?_ ?_
      · intro f w1 hb hd Q hK
        have e16 : f 16 = .int .u64 (A m) := hd.1 rfl
        clear hd
        simp only [e16] at hK
        have hK := Lib.hid hK
        go_wp2
        exact hK.out _ _ rfl (.refl _ _) nof
      refine steps2_cons ?_ ?_
      · intro f w1 hb hd Q hK
        have e17 : f 17 = .int .u64 (A m / 256) := hd.1 rfl
        clear hd
        simp only [e17] at hK
        have hK := Lib.hid hK
        go_wp2
        exact hK.out _ _ rfl (.refl _ _) nof
      refine steps2_cons ?_ ?_
      · intro f w1 hb hd Q hK
        have e13 : f 13 = .int .u8 (A m % 256) := hd.1 rfl
        have e18 : f 18 = .int .u8 (A m / 256) := hd.2.1 rfl
        clear hd
        simp only [e13, e18] at hK
        have hK := Lib.hid hK
        go_wp2
        exact hK.out _ _ ⟨_, rfl, Blk.new _ _ _⟩ ((Below.refl _ _).alloc (Nat.le_refl _) _) nof
      trivial
    intro f w3 hb hf hne
    obtain ⟨g19, d19, bk19⟩ : SvP (.int .u8 (A m % 256)) (.int .u8 (A m / 256)) (f 19) w3 := hf 10 _ _ (by decide) rfl rfl
    have d9 : f 9 = u3 := hf 0 _ _ (by decide) rfl rfl
    clear hf hne
    simp only [d9, d19]
    obtain ⟨i0, hi, hz0, hz1, hz2⟩ := info_parts u8_info
    have hO3 := ownsRow_below hO.out hb
    have hA3 := hA.below hb
    have hb3 := hb0.trans (hb.mono hb0.size)
    have hA3lt := hA3.lt
    refine wpList_append_own _ rfl _ _ 22 rfl (w.heap.size + 1) 5 i0 (.int .u8 0) 1 1 bs_under hi hz0 hz1 hz2 rfl (by decide) _ _ _ rfl hO3 ⟨g19, 0, none⟩ 2 2 [.int .u8 (A m % 256), .int .u8 (A m / 256)] rfl rfl ?_ ?_ ?_ ?_ ?_ ?_
    · intro j u hu
      have hj : j = 0 ∨ j = 1 := by
        rcases Nat.lt_or_ge j 2 with h | h
        · omega
        rw [List.getElem?_eq_none (by simpa using h)] at hu
        cases hu
      have := bk19.cell j
      rcases hj with rfl | rfl
      · simp at hu
        subst hu
        exact this
      simp at hu
      subst hu
      exact this
    · intro u hu
      simp at hu
      rcases hu with rfl | rfl <;> rfl
    · unfold maxLen; omega
    · omega
    · omega
    intro v' w4 hO4 hgr hiff
    rw [hnx.out m] at hO4
    replace hgr : w3.grownBy w4 u3.ownBlock := hgr
    have hne : some w.heap.size ≠ u3.ownBlock := by
      obtain ⟨_, h | ⟨g, cap, cur, h1, h2, h3⟩⟩ := hO3
      · rw [h.1]; simp [Value.ownBlock]
      rw [h1]
      simp only [Value.ownBlock]
      intro h
      injection h
      omega
    have hA4 := hA3.grown hgr hne
    have hb4 := hb3.grown hgr hb3.size (fun k hk => by
      obtain ⟨_, h | ⟨g, cap, cur, h1, h2, h3⟩⟩ := hO3
      · rw [h.1] at hk; simp [Value.ownBlock] at hk
      rw [h1] at hk
      simp only [Value.ownBlock] at hk
      injection hk
      omega)
    replace hO4 : w4.ownsRow (w.heap.size + 1) 5 1 v' (2 * (m + 1)) (BL (m + 1)) := hO4
    clear hO3 hA3 hb3 hgr hiff hne hi hz0 hz1 hz2 bk19 d9 d19
    replace hO4 := Lib.hid hO4
    go_wp2
    exact ⟨⟨m + 1, by omega, rfl, hO4.out, hA4, hb4⟩, by simp [intOf]; omega⟩
end Go.Proofs.YtpaldgajkhmhbaaDoor
