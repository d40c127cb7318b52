/- The walk back through bytes; the walk of scalar.reduced: a number modulo the order. -/
import Derived.Test.YtigcobcpfmnhoaaDoorSc
import Derived.Test.YtigcobcpfmnhoaaDoorZd
namespace Sc
open Go.Proofs.YtigcobcpfmnhoaaDoor
/-- the number of bytes, the lowest first -/
def leV (b : Nat → Int) : Nat → Int
  | 0 => 0
  | n + 1 => leV b n + 256 ^ n * b n
theorem leV_shift (b : Nat → Int) : ∀ n, leV b (n + 1) = b 0 + 256 * leV (fun j => b (j + 1)) n
  | 0 => by simp [leV]
  | n + 1 => by
    rw [leV, leV_shift b n, leV, Int.mul_add, ← Int.mul_assoc, Int.add_assoc]
    congr 2
    rw [Int.pow_succ, Int.mul_comm (256 ^ n) 256]
theorem leV_bd {b : Nat → Int} (h : ∀ j, 0 ≤ b j ∧ b j < 256) : ∀ n, 0 ≤ leV b n ∧ leV b n < 256 ^ n
  | 0 => by simp [leV]
  | n + 1 => by
    have ih := leV_bd h n
    have h1 := h n
    rw [leV, Int.pow_succ]
    have hp : (0 : Int) < 256 ^ n := by omega
    have h2 : 0 ≤ 256 ^ n * b n := Int.mul_nonneg (by omega) h1.1
    have h3 : 256 ^ n * b n ≤ 256 ^ n * 255 := Int.mul_le_mul_of_nonneg_left (by omega) (by omega)
    omega
/-- byte by byte from the highest on, modulo the order -/
def remS (s : List (Nat × Fin 256)) : Int := s.foldl (fun s e => (256 * s + (e.2.val : Int)) % LI) 0
theorem remS_snoc (l : List (Nat × Fin 256)) (e : Nat × Fin 256) : remS (l ++ [e]) = (256 * remS l + (e.2.val : Int)) % LI := by simp [remS]
theorem remS_bd (l : List (Nat × Fin 256)) : 0 ≤ remS l ∧ remS l < LI := by
  rcases List.eq_nil_or_concat l with rfl | ⟨l, e, rfl⟩
  · exact ⟨by decide, by unfold LI; decide⟩
  · rw [List.concat_eq_append, remS_snoc]
    exact ⟨Int.emod_nonneg _ (by unfold LI; decide), Int.emod_lt_of_pos _ (by unfold LI; decide)⟩
theorem remS_upto (b : Nat → Fin 256) (m : Nat) : ∀ k, k ≤ m → remS (upto (fun i => (m - 1 - i, b (m - 1 - i))) k) = leV (fun j => ((b (m - k + j)).val : Int)) k % LI
  | 0, _ => rfl
  | k + 1, h => by
    rw [upto_succ, remS_snoc, remS_upto b m k (by omega), leV_shift]
    have e1 : (fun j => ((b (m - (k + 1) + (j + 1))).val : Int)) = fun j => ((b (m - k + j)).val : Int) := by
      funext j
      rw [show m - (k + 1) + (j + 1) = m - k + j by omega]
    rw [e1, show m - (k + 1) + 0 = m - 1 - k by omega, Int.add_comm ((b (m - 1 - k)).val : Int)]
    rw [Int.add_emod, Int.mul_emod, Int.emod_emod_of_dvd _ (Int.dvd_refl _), ← Int.mul_emod, ← Int.add_emod]
theorem remS_all (b : Nat → Fin 256) (m : Nat) : remS (upto (fun i => (m - 1 - i, b (m - 1 - i))) m) = leV (fun j => ((b j).val : Int)) m % LI := by
  rw [remS_upto b m m (Nat.le_refl _)]
  congr 2
  funext j
  rw [Nat.sub_self, Nat.zero_add]
/-- a byte of a number -/
def byt (N : Int) (j : Nat) : Int := N / 256 ^ j % 256
end Sc
namespace Go.Proofs.YtigcobcpfmnhoaaDoor
open Go.RowKit Go.Shelf
attribute [local go_sem] Oper.semAt_some
/-- what the walk back through bytes asks of a round: the row and the box stay -/
def KpY (Bs m : Nat) (p : Option Addr) (W W' : World) : Prop := (∀ g o j, 0 < m → p = some ⟨g, o, none⟩ → W'.cell? ⟨g, o + j, none⟩ = W.cell? ⟨g, o + j, none⟩) ∧ W'.cell? ⟨Bs, 0, none⟩ = W.cell? ⟨Bs, 0, none⟩
theorem KpY.refl (Bs m : Nat) (p : Option Addr) (W : World) : KpY Bs m p W W := ⟨fun _ _ _ _ _ => rfl, rfl⟩
theorem KpY.trans {Bs m : Nat} {p : Option Addr} {A B C : World} (h : KpY Bs m p A B) (k : KpY Bs m p B C) : KpY Bs m p A C := ⟨fun g o j h0 e => (k.1 g o j h0 e).trans (h.1 g o j h0 e), k.2.trans h.2⟩
theorem ybk_c (p : Option Addr) (m c : Nat) (w : World) : Calls Tryd.prog 64 #[.slice p m c] w fun e w' => e = .returned (.func (.func 82) #[] #[.pointer (some ⟨w.heap.size, 0, none⟩)]) ∧ w' = w.alloc (.cells #[.slice p m c] 22) := by
  go_enter Tryd.func64, Tryd.ntmps64
  go_wp2
  go_returns
  exact ⟨rfl, rfl⟩
set_option maxRecDepth 100000 in
set_option maxHeartbeats 2000000 in
/-- the highest first -/
theorem ybk1_in (F : Fence) (n : Nat) (hf : F.fn 82) (hro : F.round = none) (hn : 1 ≤ n) (l Bs m c : Nat) (p : Option Addr) (b : Nat → Fin 256) (hm : m ≤ 1000000) (J Jx : List (Nat × Fin 256) → World → Prop)
    (hY : ∀ pre x W, J pre W → pre.length < m → YieldAt F (n - 1) Tryd.prog l #[.int .i64 (x.1 : Int), .int .u8 (x.2.val : Int)] W fun e W' =>
      (e = .returned (.bool true) ∧ J (pre ++ [x]) W' ∧ KpY Bs m p W W') ∨ (e = .returned (.bool false) ∧ Jx (pre ++ [x]) W'))
    (W : World) (hBs : W.cell? ⟨Bs, 0, none⟩ = some (.slice p m c)) (hc : BAt W p m (fun j => ((b j).val : Int))) (h0 : J [] W) :
    CallsIn F n Tryd.prog 82 #[.func (.yield l) #[] #[], .pointer (some ⟨Bs, 0, none⟩)] W fun e W' => (∃ v, e = .returned v) ∧
      ((∃ ys, ys = upto (fun i => (m - 1 - i, b (m - 1 - i))) m ∧ J ys W') ∨ (∃ pre, True ∧ Jx pre W')) := by
  replace hY := Lib.hid hY
  replace hc := Lib.hid hc
  refine callsIn_of_wp Tryd.func82 rfl hf ?_ hro
  simp only [Tryd.ntmps82, List.size_toArray, List.length_cons, List.length_nil, Nat.reduceAdd, Nat.reduceSub, Array.replicate_succ, Array.replicate_zero, List.push_toArray, List.append_toArray, List.nil_append, List.cons_append]
  gi_wp2
  gi_loopw [3] (fun i wr => ∃ k : Nat, k ≤ m ∧ i = .int .i64 ((m : Int) - 1 - k) ∧ J (upto (fun i => (m - 1 - i, b (m - 1 - i))) k) wr ∧ KpY Bs m p W wr)
    (fun i _ => (intOf i + 1).toNat)
  case atStart => exact ⟨0, Nat.zero_le _, by simp, h0, KpY.refl _ _ _ _⟩
  case round =>
    obtain ⟨k, hk, rfl, hJs, hnx⟩ := hrel
    have hq : wr.cell? ⟨Bs, 0, none⟩ = some (.slice p m c) := hnx.2.trans hBs
    by_cases hlt : k < m
    · obtain ⟨j, hj⟩ : ∃ j, j = m - 1 - k := ⟨_, rfl⟩
      obtain ⟨fn, tmps, assign, body, hy, hR⟩ := hY.out _ (m - 1 - k, b (m - 1 - k)) wr hJs (by rw [upto_length]; exact hlt)
      obtain ⟨g, o, rfl, hg, hc2⟩ := hc.out (by omega)
      have hcx : wr.cell? ⟨g, o + j, none⟩ = some (.int .u8 ((b j).val : Int)) := (hnx.1 g o j (by omega) rfl).trans (hc2 _ (by omega))
      have hi : ((m : Int) - 1 - k) = (j : Int) := by omega
      rw [← hj] at hy hR
      dsimp only at hy
      rw [hi]
      have hjm : (j : Int) < (m : Int) := by omega
      have hj0 : (0 : Int) ≤ (j : Int) := by omega
      replace hj := Lib.hid hj
      replace hi := Lib.hid hi
      clear hc2
      gi_wp2
      refine hR.mono ?_
      rintro e W3 (⟨rfl, hJ3, hk3⟩ | ⟨rfl, hJx3⟩)
      · gi_wp2
        go_roundw
        case rel => exact ⟨k + 1, by omega, by have := hj.out; congr 1 <;> omega, by rw [upto_succ, ← hj.out]; exact hJ3, hnx.trans hk3⟩
        case measure => have := hj.out; first | (simp [intOf]; done) | (simp [intOf]; omega)
      gi_wp2
      refine bodyPost_ret (results_none rfl _ _ _) rfl ?_
      exact ⟨⟨_, rfl⟩, .inr ⟨_, trivial, hJx3⟩⟩
    obtain rfl : k = m := by omega
    have hneg : ((k : Int) - 1 - k) = -1 := by omega
    rw [hneg]
    gi_wp2
    go_end0
    exact ⟨⟨_, rfl⟩, .inl ⟨_, rfl, hJs⟩⟩
theorem ybk_stops (F : Fence) (n : Nat) (hf : F.fn 82) (hro : F.round = none) (hn : 1 ≤ n) (Bs m c : Nat) (p : Option Addr) (b : Nat → Fin 256) (hm : m ≤ 1000000) (w : World) (hB : Bs < w.heap.size)
    (hBs : w.cell? ⟨Bs, 0, none⟩ = some (.slice p m c)) (hc : BAt w p m (fun j => ((b j).val : Int))) :
    SeqStopsK F n Tryd.prog 82 #[.pointer (some ⟨Bs, 0, none⟩)] (fun x : Nat × Fin 256 => #[.int .i64 (x.1 : Int), .int .u8 (x.2.val : Int)]) (KpY Bs m p) (fun ys => ys = upto (fun i => (m - 1 - i, b (m - 1 - i))) m) (fun _ => True) m w := fun l J Jx W hW _ _ hY h0 =>
  ybk1_in F n hf hro hn l Bs m c p b hm J Jx hY W ((hW.cell (p := ⟨Bs, 0, none⟩) hB).trans hBs) (hc.below hW) h0
theorem KpY.putObj {Bs m n₀ l : Nat} {p : Option Addr} {W : World} {o o' : Obj} (h1 : 0 < m → ∀ ad, p = some ad → ad.block < n₀) (h2 : Bs < n₀) (hl : n₀ ≤ l) (h : W.heap[l]? = some o) : KpY Bs m p W (W.putObj l o') := by
  have hlt : l < W.heap.size := (Array.getElem?_eq_some_iff.1 h).1
  have hb : Below n₀ W (W.putObj l o') := (Below.refl n₀ W).grown (grownBy_putObj' W l o') (by omega) (fun k e => by cases e; exact hl)
  exact ⟨fun g o j h0 e => hb.cell (p := ⟨g, o + j, none⟩) (show g < n₀ from h1 h0 _ e), hb.cell (p := ⟨Bs, 0, none⟩) h2⟩
theorem KpY.grown {Bs m GS : Nat} {p : Option Addr} {W W' : World} (hg : W.grownBy W' (some GS)) (h1 : 0 < m → ∀ ad, p = some ad → ad.block < W.heap.size ∧ ad.block ≠ GS) (h2 : Bs < W.heap.size) (n2 : Bs ≠ GS) : KpY Bs m p W W' :=
  ⟨fun g o j h0 e => hg.cell_far ⟨g, o + j, none⟩ (show g < W.heap.size from (h1 h0 _ e).1) (fun e2 => (show g ≠ GS from (h1 h0 _ e).2) (Option.some.inj e2)), hg.cell_far ⟨Bs, 0, none⟩ h2 (fun e => n2 (Option.some.inj e))⟩
end Go.Proofs.YtigcobcpfmnhoaaDoor
