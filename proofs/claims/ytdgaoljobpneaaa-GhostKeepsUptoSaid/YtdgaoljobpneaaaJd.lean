/- The walks of a record's shape. -/
import Derived.Test.YtdgaoljobpneaaaJc
namespace Go.Proofs.Ytdgaoljobpneaaa
open Go.RowKit
theorem blk7 {w : World} {g : Nat} {t : TypeId} {x0 x1 x2 x3 x4 x5 x6 : Value} (h : Blk w g t #[x0, x1, x2, x3, x4, x5, x6]) : w.cell? ⟨g, 0, none⟩ = some x0 ∧ w.cell? ⟨g, 1, none⟩ = some x1 ∧ w.cell? ⟨g, 2, none⟩ = some x2 ∧ w.cell? ⟨g, 3, none⟩ = some x3 ∧ w.cell? ⟨g, 4, none⟩ = some x4 ∧ w.cell? ⟨g, 5, none⟩ = some x5 ∧ w.cell? ⟨g, 6, none⟩ = some x6 :=
  ⟨h.cell 0, h.cell 1, h.cell 2, h.cell 3, h.cell 4, h.cell 5, h.cell 6⟩
set_option maxHeartbeats 1000000 in
theorem dot_c (k : ByteArray) (cl sq : Int) (p1 : Option Addr) (n1 c1 : Nat) (gone : Bool) (p2 : Option Addr) (n2 c2 : Nat) (p3 : Option Addr) (n3 c3 : Nat) (w : World) : Calls Try.prog 76 #[.agg #[.string k, .int .i64 cl, .int .i64 sq, .slice p1 n1 c1, .bool gone, .slice p2 n2 c2, .slice p3 n3 c3]] w fun e w' => e = .returned (.agg #[.int .i64 cl, .int .i64 sq]) ∧ Below w.heap.size w w' := by
  go_enter Try.func76, Try.ntmps76
  go_wp2
  go_returns
  exact ⟨rfl, by go_grown⟩
/-- dots as told by a list -/
def dD (ds : List Int) (j : Nat) : Int := ds.getD j 0
/-- is a record's shape right? -/
def shB (K : Nat) (cl sq : Int) (n1 : Nat) (ds : List Int) (gone : Bool) (n2 : Nat) : Bool := decide (1 ≤ K ∧ K ≤ 64) && (okD cl sq && (rightD n1 (dD ds) && (!hasV n1 (dD ds) cl sq && (decide (n2 ≤ 1024) && (!gone || decide (n2 = 0))))))
def dot1 (cl sq : Int) (j : Nat) : Int := if j = 0 then cl else sq
theorem right1 (cl sq : Int) : rightD 1 (dot1 cl sq) = okD cl sq := by
  unfold rightD RightD
  cases h : okD cl sq
  · exact decide_eq_false (fun hh => by have := (hh 0 (by decide)).1; rw [show okD (dot1 cl sq (0 * 2)) (dot1 cl sq (0 * 2 + 1)) = okD cl sq from rfl, h] at this; cases this)
  · exact decide_eq_true (fun i hi => by obtain rfl : i = 0 := by omega
                                         exact ⟨h, fun h => absurd h (by decide)⟩)
theorem dots1 {w : World} {g : Nat} {cl sq : Int} (h : Blk w g 86 #[.int .i64 cl, .int .i64 sq]) : DotsAt w (some ⟨g, 0, none⟩) 1 (dot1 cl sq) := fun _ => ⟨g, 0, rfl, h.lt, fun j hj => by
  have : j = 0 ∨ j = 1 := by omega
  rcases this with rfl | rfl
  · exact h.cell 0
  · exact h.cell 1⟩
set_option maxRecDepth 20000 in
set_option maxHeartbeats 8000000 in
theorem shaped_c (k : ByteArray) (cl sq : Int) (p1 : Option Addr) (n1 c1 : Nat) (gone : Bool) (p2 : Option Addr) (n2 c2 : Nat) (p3 : Option Addr) (n3 c3 : Nat) (ds : List Int) (hn1 : n1 ≤ 1000000) (w : World) (hD : DotsL w p1 n1 ds) :
    Calls Try.prog 45 #[.agg #[.string k, .int .i64 cl, .int .i64 sq, .slice p1 n1 c1, .bool gone, .slice p2 n2 c2, .slice p3 n3 c3]] w fun e w' => e = .returned (.bool (shB k.size cl sq n1 ds gone n2)) ∧ Below w.heap.size w w' := by
  obtain ⟨E, hE⟩ : ∃ E, E = shB k.size cl sq n1 ds gone n2 := ⟨_, rfl⟩
  rw [← hE]
  unfold shB at hE
  have hdot := dot_c k cl sq p1 n1 c1 gone p2 n2 c2 p3 n3 c3
  have hr1 := fun w' hb => vright_c p1 n1 c1 (dD ds) hn1 w' (hD.2.below (w := w) (w' := w') hb)
  have hh := fun w' hb => vhas_c p1 n1 c1 (dD ds) cl sq hn1 w' (hD.2.below (w := w) (w' := w') hb)
  have hR1 := fun g w' hG => vright_c (some ⟨g, 0, none⟩) 1 1 (dot1 cl sq) (by decide) w' (dots1 (w := w') (g := g) (cl := cl) (sq := sq) hG)
  rw [right1] at hR1
  replace hdot := Lib.hid hdot
  replace hr1 := Lib.hid hr1
  replace hh := Lib.hid hh
  replace hR1 := Lib.hid hR1
  replace hE := Lib.hid hE
  clear hD
  go_enter Try.func45, Try.ntmps45
  by_cases hk0 : k.size < 1
  · have hk1 : (k.size : Int) < 1 := by omega
    have hf : E = false := by rw [hE.out, decide_eq_false (by omega), Bool.false_and]
    replace hf := Lib.hid hf
    clear hE hk0
    go_wp2
    go_returns
    exact ⟨by rw [hf.out]; rfl, by go_grown⟩
  by_cases hk2 : 64 < k.size
  · have hk1 : ¬ (k.size : Int) < 1 := by omega
    have hk3 : 64 < (k.size : Int) := by omega
    have hf : E = false := by rw [hE.out, decide_eq_false (by omega), Bool.false_and]
    replace hf := Lib.hid hf
    clear hE hk0 hk2
    go_wp2
    go_returns
    exact ⟨by rw [hf.out]; rfl, by go_grown⟩
  have hk1 : ¬ (k.size : Int) < 1 := by omega
  have hk3 : ¬ 64 < (k.size : Int) := by omega
  replace hE : E = (okD cl sq && (rightD n1 (dD ds) && (!hasV n1 (dD ds) cl sq && (decide (n2 ≤ 1024) && (!gone || decide (n2 = 0)))))) := by
    rw [hE.out, decide_eq_true (show 1 ≤ k.size ∧ k.size ≤ 64 from ⟨by omega, by omega⟩), Bool.true_and]
  replace hE := Lib.hid hE
  clear hk0 hk2
  go_wp2_with fail
  refine calls_at (fun W0 hW => ?_)
  have hG : Blk W0 w.heap.size 79 #[.string k, .int .i64 cl, .int .i64 sq, .slice p1 n1 c1, .bool gone, .slice p2 n2 c2, .slice p3 n3 c3] := by rw [hW]; exact Blk.new _ _ _
  have hb0 : Below w.heap.size w W0 := by rw [hW]; exact (Below.refl _ _).alloc (Nat.le_refl _) _
  clear hW hk1 hk3
  refine (hdot.out _).mono ?_
  rintro e w1 ⟨rfl, hb⟩
  replace hG := hG.below hb
  replace hb0 := hb0.trans (hb.mono hb0.size)
  clear hb
  go_wp2_with fail
  refine calls_at (fun W1 hW => ?_)
  have hD1 : Blk W1 w1.heap.size 86 #[.int .i64 cl, .int .i64 sq] := by rw [hW]; exact Blk.new _ _ _
  replace hG : Blk W1 w.heap.size 79 #[.string k, .int .i64 cl, .int .i64 sq, .slice p1 n1 c1, .bool gone, .slice p2 n2 c2, .slice p3 n3 c3] := by rw [hW]; exact hG.alloc _
  replace hb0 : Below w.heap.size w W1 := by rw [hW]; exact hb0.alloc hb0.size _
  clear hW
  refine (hR1.out _ _ hD1).mono ?_
  rintro e w2 ⟨rfl, hb⟩
  replace hG := hG.below hb
  replace hb0 := hb0.trans (hb.mono hb0.size)
  clear hb
  clear hD1 hR1
  cases ho : okD cl sq
  · rw [ho] at hE
    have hf : E = false := by rw [hE.out, Bool.false_and]
    replace hf := Lib.hid hf
    clear hE
    go_wp2
    go_returns
    exact ⟨by rw [hf.out]; rfl, hb0⟩
  rw [ho, Bool.true_and] at hE
  clear ho
  obtain ⟨y0, y1, y2, y3, y4, y5, y6⟩ := blk7 hG
  go_wp2_with fail
  clear y0 y1 y2 y3 y4 y5 y6
  refine (hr1.out _ hb0).mono ?_
  rintro e w3 ⟨rfl, hb⟩
  replace hG := hG.below hb
  replace hb0 := hb0.trans (hb.mono hb0.size)
  clear hb
  clear hr1
  cases hr : rightD n1 (dD ds)
  · rw [hr] at hE
    have hf : E = false := by rw [hE.out, Bool.false_and]
    replace hf := Lib.hid hf
    clear hE
    go_wp2
    go_returns
    exact ⟨by rw [hf.out]; rfl, hb0⟩
  rw [hr, Bool.true_and] at hE
  clear hr
  replace hG := hG.drew
  replace hb0 := hb0.drew
  go_wp2
  go_region_held3 (fun w' => w'.cell? ⟨w.heap.size, 0, none⟩ = some (.string k) ∧ w'.cell? ⟨w.heap.size, 1, none⟩ = some (.int .i64 cl) ∧ w'.cell? ⟨w.heap.size, 2, none⟩ = some (.int .i64 sq) ∧ w'.cell? ⟨w.heap.size, 3, none⟩ = some (.slice p1 n1 c1) ∧ w'.cell? ⟨w.heap.size, 4, none⟩ = some (.bool gone) ∧ w'.cell? ⟨w.heap.size, 5, none⟩ = some (.slice p2 n2 c2) ∧ w'.cell? ⟨w.heap.size, 6, none⟩ = some (.slice p3 n3 c3)) (first | exact blk7 hG5 | exact blk7 hG4 | exact blk7 hG) (first | (go_at_call 76; refine (hdot.out _).mono ?_; rintro q w4 ⟨rfl, hb4⟩; have hG4 := hG.below hb4; have hb04 := hb0.trans (hb4.mono hb0.size); clear hdot hG hb0 hb4) | (go_at_call 77; refine (hh.out _ hb04).mono ?_; rintro q w5 ⟨rfl, hb5⟩; have hG5 := hG4.below hb5; have hb05 := hb04.trans (hb5.mono hb04.size); clear hh hG4 hb04 hb5))
  cases hv : hasV n1 (dD ds) cl sq
  · rw [hv, Bool.not_false, Bool.true_and] at hE
    clear hv
    obtain ⟨y0, y1, y2, y3, y4, y5, y6⟩ := blk7 hG5
    by_cases hn : n2 ≤ 1024
    · have hn3 : (n2 : Int) ≤ 1024 := by omega
      rw [decide_eq_true hn, Bool.true_and] at hE
      cases gone
      · have hf : E = true := hE.out
        replace hf := Lib.hid hf
        clear hE
        go_wp2
        go_returns
        exact ⟨by rw [hf.out]; rfl, hb05⟩
      · have hf : E = decide (n2 = 0) := hE.out
        by_cases hz : n2 = 0
        · rw [decide_eq_true hz] at hf
          subst hz
          replace hf := Lib.hid hf
          clear hE
          go_wp2
          go_returns
          exact ⟨by rw [hf.out]; rfl, hb05⟩
        · rw [decide_eq_false hz] at hf
          have hz3 : ((n2 : Int) == 0) = false := by simp; omega
          replace hf := Lib.hid hf
          clear hE
          go_wp2
          go_returns
          exact ⟨by rw [hf.out]; rfl, hb05⟩
    · have hn3 : ¬ (n2 : Int) ≤ 1024 := by omega
      have hf : E = false := by rw [hE.out, decide_eq_false hn, Bool.false_and]
      replace hf := Lib.hid hf
      clear hE
      go_wp2
      go_returns
      exact ⟨by rw [hf.out]; rfl, hb05⟩
  · rw [hv] at hE
    have hf : E = false := by rw [hE.out, Bool.not_true, Bool.false_and]
    replace hf := Lib.hid hf
    clear hE
    go_wp2
    go_returns
    exact ⟨by rw [hf.out]; rfl, hb05⟩
end Go.Proofs.Ytdgaoljobpneaaa
