/- The walks of vector.Covers and Add. -/
import Derived.Test.YtofgkfdfondajaaGreatWu
namespace Go.Proofs.YtofgkfdfondajaaGreat
open Go.RowKit
set_option maxHeartbeats 2000000 in
theorem covers1_c (cb : Nat) (p : Option Addr) (n c : Nat) (D : Nat → Int) (x y : Int) (hn : n ≤ 1000000) (w : World) (hB : Blk w cb 23 #[.slice p n c]) (hD : DotsAt w p n D) (hs : ∀ i j, i < j → j < n → D (i * 2) < D (j * 2)) :
    Calls Tryz.prog 62 #[.agg #[.int .i64 x, .int .i64 y], .pointer (some ⟨cb, 0, none⟩)] w fun e w' => e = .returned (.bool (!hasD n D x y)) ∧ Below w.heap.size w w' := by
  have hh := fun w' hb => has_c p n c D x y hn w' (hD.below (w := w) (w' := w') hb) hs
  replace hh := Lib.hid hh
  have c0 : w.cell? ⟨cb, 0, none⟩ = some (.slice p n c) := hB.cell 0
  have hlt := hB.lt
  have cq : (w.alloc (.cells #[.int .i64 x, .int .i64 y] 35)).cell? ⟨cb, 0, none⟩ = some (.slice p n c) := (hB.alloc _).cell 0
  clear hD hs hB
  go_enter Tryz.func62, Tryz.ntmps62
  go_wp2_with fail
  refine (hh.out _ ((Below.refl _ _).alloc (Nat.le_refl _) _)).mono ?_
  rintro e w2 ⟨rfl, hb2⟩
  have hb3 : Below w.heap.size w w2 := ((Below.refl w.heap.size w).alloc (Nat.le_refl _) _).trans (hb2.mono (by simp))
  clear hb2 hh c0 cq
  generalize hz : hasD n D x y = z at *
  replace hz := Lib.hid hz
  go_wp2
  go_returns
  exact ⟨by rw [hz.out]; rfl, hb3⟩
/-- does a vector cover another? -/
def covB (n : Nat) (D : Nat → Int) (m : Nat) (E : Nat → Int) : Bool := rightD n D && (rightD m E && !anyF (fun x y => !hasD n D x y) m E)
set_option maxRecDepth 20000 in
set_option maxHeartbeats 2000000 in
theorem covers_c (p : Option Addr) (n c : Nat) (D : Nat → Int) (q : Option Addr) (m c2 : Nat) (E : Nat → Int) (hn : n ≤ 1000000) (hm : m ≤ 1000000) (w : World) (hD : DotsAt w p n D) (hE : DotsAt w q m E) :
    Calls Tryz.prog 29 #[.slice p n c, .slice q m c2] w fun e w' => e = .returned (.bool (covB n D m E)) ∧ Below w.heap.size w w' := by
  have hr := fun w' hb => vright_c p n c D hn w' (hD.below (w := w) (w' := w') hb)
  have hr2 := fun w' hb => vright_c q m c2 E hm w' (hE.below (w := w) (w' := w') hb)
  have hct := fun cb w' (hb : Below w.heap.size w w') (hB : Blk w' cb 23 #[.slice p n c]) hs => containsV_c cb (fun x y => !hasD n D x y) q m c2 E hm w' (hE.below hb) (fun x y w2 hb2 => covers1_c cb p n c D x y hn w2 (hB.below hb2) (hD.below (hb.trans (hb2.mono hb.size))) hs)
  replace hr := Lib.hid hr
  replace hr2 := Lib.hid hr2
  replace hct := Lib.hid hct
  clear hD hE
  go_enter Tryz.func29, Tryz.ntmps29
  go_wp2_with fail
  refine calls_at (fun W0 hW => ?_)
  have hG : Blk W0 w.heap.size 23 #[.slice p n c] := by rw [hW]; exact Blk.new _ _ _
  have hb0 : Below w.heap.size w W0 := by rw [hW]; exact (Below.refl _ _).alloc (Nat.le_refl _) _
  clear hW
  refine (hr.out W0 hb0).mono ?_
  rintro e w1 ⟨rfl, hb⟩
  replace hG := hG.below hb
  replace hb0 := hb0.trans (hb.mono hb0.size)
  clear hb hr
  cases hf : rightD n D
  · have hv : covB n D m E = false := by unfold covB; rw [hf]; rfl
    replace hv := Lib.hid hv
    clear hf
    go_wp2
    go_returns
    exact ⟨by rw [hv.out]; rfl, hb0⟩
  · have hs := rightD_lt (of_decide_eq_true hf)
    replace hs := Lib.hid hs
    go_wp2_with fail
    refine (hr2.out _ hb0).mono ?_
    rintro e w2 ⟨rfl, hb⟩
    replace hG := hG.below hb
    replace hb0 := hb0.trans (hb.mono hb0.size)
    clear hb hr2
    cases hk : rightD m E
    · have hv : covB n D m E = false := by unfold covB; rw [hf, hk]; rfl
      replace hv := Lib.hid hv
      clear hf hk
      go_wp2
      go_returns
      exact ⟨by rw [hv.out]; rfl, hb0⟩
    · have hv : covB n D m E = !anyF (fun x y => !hasD n D x y) m E := by unfold covB; rw [hf, hk]; rfl
      replace hv := Lib.hid hv
      clear hf hk
      go_wp2_with fail
      refine (hct.out _ w2 hb0 hG hs.out).mono ?_
      rintro e w3 ⟨rfl, hb⟩
      generalize anyF (fun x y => !hasD n D x y) m E = z at *
      go_wp2
      go_returns
      exact ⟨by rw [hv.out]; rfl, hb0.trans (hb.mono hb0.size)⟩
set_option maxHeartbeats 2000000 in
theorem add1_c (x y : Int) (w : World) : Calls Tryz.prog 21 #[.agg #[.int .i64 x, .int .i64 y]] w fun e w' => e = .returned (.bool (!okD x y)) ∧ Below w.heap.size w w' := by
  have hh := fun w' => right_c x y w'
  replace hh := Lib.hid hh
  go_enter Tryz.func21, Tryz.ntmps21
  go_wp2_with fail
  refine (hh.out _).mono ?_
  rintro e w2 ⟨rfl, hb2⟩
  have hb3 : Below w.heap.size w w2 := ((Below.refl w.heap.size w).alloc (Nat.le_refl _) _).trans (hb2.mono (by simp))
  clear hb2 hh
  generalize hz : okD x y = z at *
  replace hz := Lib.hid hz
  go_wp2
  go_returns
  exact ⟨by rw [hz.out]; rfl, hb3⟩
end Go.Proofs.YtofgkfdfondajaaGreat
