/- Numbers by sixteen parts in memory; the walks of P and Less. -/
import Derived.Test.YtpaldgajkhmhbaaDoorRows
import Derived.Test.YtpaldgajkhmhbaaDoorDg
import Derived.Test.YtpaldgajkhmhbaaDoorFw4
import Derived.WalkKit
import Derived.WalkSpells
import Derived.WalkLawsBesides
import Derived.RegionTactic
import Derived.ChangeAlike
import Derived.BigRegion
import Derived.Handy
import Derived.Lib.Hide
import Derived.LoopTactic
import Derived.Deep.QuietTactic
import Derived.BigQuiet
import Derived.IntWalk
namespace Go.Proofs.YtpaldgajkhmhbaaDoor
open Go.RowKit

def av (f : Nat → Int) : Array Value := #[.int .u64 (f 0), .int .u64 (f 1), .int .u64 (f 2), .int .u64 (f 3), .int .u64 (f 4), .int .u64 (f 5), .int .u64 (f 6), .int .u64 (f 7), .int .u64 (f 8), .int .u64 (f 9), .int .u64 (f 10), .int .u64 (f 11), .int .u64 (f 12), .int .u64 (f 13), .int .u64 (f 14), .int .u64 (f 15)]
theorem lt16 {i : Nat} (h : i < 16) : i = 0 ∨ i = 1 ∨ i = 2 ∨ i = 3 ∨ i = 4 ∨ i = 5 ∨ i = 6 ∨ i = 7 ∨ i = 8 ∨ i = 9 ∨ i = 10 ∨ i = 11 ∨ i = 12 ∨ i = 13 ∨ i = 14 ∨ i = 15 := by omega
theorem av_get (f : Nat → Int) (i : Nat) (h : i < 16) : (av f)[i]? = some (.int .u64 (f i)) := by
  rcases lt16 h with rfl | rfl | rfl | rfl | rfl | rfl | rfl | rfl | rfl | rfl | rfl | rfl | rfl | rfl | rfl | rfl <;> rfl
theorem av_set (f : Nat → Int) (i : Nat) (v : Int) (h : i < 16) : (av f).setIfInBounds i (.int .u64 v) = av (Dg.up f i v) := by
  apply Array.ext_getElem?
  intro j
  by_cases hj : j < 16
  · rw [av_get _ _ hj]
    by_cases e : i = j
    · subst e
      simp [av, h, Dg.up]
    have := av_get f j hj
    rw [Array.getElem?_setIfInBounds_ne e, this, Dg.up_ne _ _ (fun h => e h.symm)]
  have h1 : ∀ x : Array Value, x.size = 16 → x[j]? = none := fun x hx => Array.getElem?_eq_none (by omega)
  rw [h1 ((av f).setIfInBounds i (.int .u64 v)) (by rw [Array.size_setIfInBounds]; rfl), h1 _ rfl]
theorem av_congr {f g : Nat → Int} (h : ∀ j, j < 16 → f j = g j) : av f = av g := by
  unfold av
  rw [h 0 (by decide), h 1 (by decide), h 2 (by decide), h 3 (by decide), h 4 (by decide), h 5 (by decide), h 6 (by decide), h 7 (by decide), h 8 (by decide), h 9 (by decide), h 10 (by decide), h 11 (by decide), h 12 (by decide), h 13 (by decide), h 14 (by decide), h 15 (by decide)]
theorem bdrewN {B : Nat} {a w : World} (h : Below B a w) (n : Nat) : Below B a (w.drewN n) := h.trans ⟨rfl, rfl, rfl, Nat.le_refl _, fun _ _ => rfl⟩
theorem Blk.drewN {w : World} {g : Nat} {t : TypeId} {cs : Array Value} (h : Blk w g t cs) (n : Nat) : Blk (w.drewN n) g t cs := h
/-- a number is answered -/
def PostN (f : Nat → Int) (w : World) (e : Ending) (w' : World) : Prop := e = .returned (.agg (av f)) ∧ Below w.heap.size w w'
theorem PostN.congr {f g : Nat → Int} {w w' : World} {e : Ending} (h : ∀ j, j < 16 → f j = g j) (hp : PostN f w e w') : PostN g w e w' := by
  obtain ⟨rfl, hb⟩ := hp
  exact ⟨by rw [av_congr h], hb⟩
/-- p's parts -/
def pd (i : Nat) : Int := if i = 0 then 65517 else if i < 15 then 65535 else 32767
theorem pd_eq : ∀ j, j < 16 → pd j = Dg.dg Fe.P j := fun j hj => by
  rcases lt16 hj with rfl | rfl | rfl | rfl | rfl | rfl | rfl | rfl | rfl | rfl | rfl | rfl | rfl | rfl | rfl | rfl <;> decide +kernel
set_option maxRecDepth 100000 in
set_option maxRecDepth 20000 in
set_option maxHeartbeats 2000000 in
theorem p_c (w : World) : Calls Tryd.prog 85 #[] w (PostN pd w) := by
  go_enter Tryd.func85, Tryd.ntmps85
  go_wp2
  refine wp_loop_rounds 17 ?_
  iterate 17 (rw [rounds_succ]; go_wp2)
  go_returns
  refine ⟨rfl, ?_⟩
  go_grown
def lessB (f g : Nat → Int) : Bool := decide (Dg.sm f 16 < Dg.sm g 16)
theorem less_lt {f g : Nat → Int} {k : Nat} (hf : Dg.Di f 16) (hg : Dg.Di g 16) (hk : k < 16) (he : ∀ j, k < j → j < 16 → f j = g j) (h : f k ≠ g k) : lessB f g = decide (f k < g k) := by
  unfold lessB
  by_cases hl : f k < g k
  · rw [decide_eq_true hl, decide_eq_true (Dg.sm_less 16 hf hg hk he hl)]
  have := Dg.sm_less 16 hg hf hk (fun j h1 h2 => (he j h1 h2).symm) (by omega)
  rw [decide_eq_false hl, decide_eq_false (by omega)]
theorem less_eq {f g : Nat → Int} (he : ∀ j, j < 16 → f j = g j) : lessB f g = false := by
  unfold lessB
  rw [Dg.sm_congr 16 he]
  simp
set_option maxRecDepth 20000 in
set_option maxHeartbeats 1000000 in
theorem less_c (f g : Nat → Int) (hf : Dg.Di f 16) (hg : Dg.Di g 16) (w : World) : Calls Tryd.prog 84 #[.agg (av f), .agg (av g)] w (PostV (.bool (lessB f g)) w) := by
  have hfg := fun k => @less_lt f g k hf hg
  have hee := @less_eq f g
  generalize lessB f g = L at *
  replace hfg := Lib.hid hfg
  replace hee := Lib.hid hee
  replace hf := Lib.hid hf
  replace hg := Lib.hid hg
  go_enter Tryd.func84, Tryd.ntmps84
  go_wp2
  refine at_world (fun W0 hW => ?_)
  have hA : Blk W0 (w.heap.size) 33 (av f) := by rw [hW]; exact (Blk.new _ _ _).alloc _
  have hB : Blk W0 (w.heap.size + 1) 33 (av g) := by rw [hW]; exact blk_at (by simp) (Blk.new _ _ _)
  have hb0 : Below w.heap.size w W0 := by rw [hW]; go_grown
  clear hW
  go_loopw [5] (fun i wr => ∃ z : Int, -1 ≤ z ∧ z ≤ 15 ∧ i = .int .i64 z ∧ (∀ j : Nat, z < j → j < 16 → f j = g j) ∧ Blk wr (w.heap.size) 33 (av f) ∧ Blk wr (w.heap.size + 1) 33 (av g) ∧ Below w.heap.size w wr) (fun i _ => (1 + intOf i).toNat)
  case atStart => exact ⟨15, by decide, by decide, rfl, fun j h1 h2 => absurd h1 (by omega), hA, hB, hb0⟩
  case round =>
    clear hA hB hb0
    obtain ⟨z, hz1, hz2, hi, hI, hA, hB, hb0⟩ := hrel
    subst hi
    by_cases hz : z = -1
    · subst hz
      have hL : L = false := hee.out fun j hj => hI j (by omega) hj
      replace hI := Lib.hid hI
      replace hL := Lib.hid hL
      go_wp2
      go_returns
      exact ⟨by rw [hL.out]; rfl, hb0⟩
    obtain ⟨k, rfl⟩ : ∃ k : Nat, z = k := ⟨z.toNat, by omega⟩
    have hk : k < 16 := by omega
    have ca := hA.cell k
    have cb := hB.cell k
    rw [av_get _ _ hk] at ca cb
    have hf1 := hf.out k hk
    have hg1 := hg.out k hk
    have hk0 : (0 : Int) ≤ (k : Int) := by omega
    have hk1 : (k : Int) < 16 := by omega
    replace hI := Lib.hid hI
    clear hz hz1 hz2
    by_cases he : f k = g k
    · have he' := Lib.hid he
      clear he
      have hne : (f k != g k) = false := by simpa using he'.out
      go_wp2
      go_quiet (fail)
      go_wp2
      refine ⟨⟨(k : Int) - 1, by omega, by omega, rfl, fun j h1 h2 => ?_, hA, hB, bdrewN hb0 _⟩, by simp [intOf]; omega⟩
      by_cases e : j = k
      · rw [e]; exact he'.out
      exact hI.out j (by omega) h2
    have hLk := hfg.out k hk (fun j h1 h2 => hI.out j (by omega) h2) he
    have hne : (f k != g k) = true := by simpa using he
    replace he := Lib.hid he
    replace hLk := Lib.hid hLk
    go_wp2
    go_quiet (fail)
    go_wp2
    go_quiet (fail)
    go_wp2
    go_returns
    exact ⟨by rw [hLk.out]; rfl, bdrewN (bdrewN hb0 _) _⟩
end Go.Proofs.YtpaldgajkhmhbaaDoor
