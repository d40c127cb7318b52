/- The walk of the law's awake. -/
import Derived.Test.YtofgkfdfondajaaGreatWx
namespace Go.Proofs.YtofgkfdfondajaaGreat
open Go.RowKit
theorem dots_blk {w : World} {g : Nat} {t : TypeId} (n : Nat) (xs : List Int) (h : Blk w g t (dotL xs).toArray) (hl : xs.length = 2 * n) : DotsL w (some ⟨g, 0, none⟩) n xs := ⟨hl, fun _ => ⟨g, 0, rfl, h.lt, fun j hj => by
  have hj2 : j < xs.length := by omega
  rw [Nat.zero_add, h.cell j]
  simp [dotL, hj2]⟩⟩
theorem aw_val (q : Int) : max (valD 2 (lD [1, 3, 4, 1]) q) (valD 2 (lD [1, 2, 2, 7]) q) = valD 3 (lD [1, 3, 2, 7, 4, 1]) q := by
  have e1 : valD 2 (lD [1, 3, 4, 1]) q = if 4 = q then 1 else if 1 = q then 3 else 0 := rfl
  have e2 : valD 2 (lD [1, 2, 2, 7]) q = if 2 = q then 7 else if 1 = q then 2 else 0 := rfl
  have e3 : valD 3 (lD [1, 3, 2, 7, 4, 1]) q = if 4 = q then 1 else if 2 = q then 7 else if 1 = q then 3 else 0 := rfl
  rw [e1, e2, e3]
  repeat' split
  all_goals omega
theorem own_dots {w : World} {B m cc : Nat} {q : Option Addr} {ds : List Int} (h : w.ownsRow B 35 2 (.slice q m cc) m (dotL ds)) : DotsL w q m ds := by
  obtain ⟨q', cc', e, h2⟩ := own_form h
  injection e with e1 e2 e3
  subst e1
  exact h2
def AwP (w : World) (e : Ending) (w' : World) : Prop := e = .returned (.bool true) ∧ Below w.heap.size w w'
set_option maxRecDepth 20000 in
set_option maxHeartbeats 4000000 in
theorem awake_c (w : World) : Calls Tryz.prog 5 #[] w (AwP w) := by
  go_enter Tryz.func5, Tryz.ntmps5
  go_wp2_with fail
  refine calls_at (fun W0 hW => ?_)
  have hA : Blk W0 w.heap.size 35 (dotL [1, 3, 4, 1]).toArray := by rw [hW]; exact ((Blk.new w _ _).alloc _).alloc _
  have hB : Blk W0 (w.heap.size + 1) 35 (dotL [1, 2, 2, 7]).toArray := by rw [hW]; exact (blk_at (by simp) (Blk.new (w.alloc _) _ _)).alloc _
  have hC : Blk W0 (w.heap.size + 1 + 1) 23 #[.slice (some ⟨w.heap.size, 0, none⟩) 2 2, .slice (some ⟨w.heap.size + 1, 0, none⟩) 2 2] := by rw [hW]; exact blk_at (by simp) (Blk.new ((w.alloc _).alloc _) _ _)
  have hb0 : Below w.heap.size w W0 := by rw [hW]; exact (((Below.refl _ _).alloc (Nat.le_refl _) _).alloc (by simp) _).alloc (by simp; omega) _
  clear hW
  refine (join2_c _ _ _ 2 2 _ _ 2 2 _ (by decide) (by decide) W0 hC (dots_blk 2 _ hA rfl) (dots_blk 2 _ hB rfl) (by decide) (by decide)).mono ?_
  rintro e w1 ⟨q, m, cc, es, rfl, ho, hR, hv, hb1⟩
  have hD := own_dots ho
  obtain ⟨rfl, rfl⟩ := eqL_val (ys := [1, 3, 2, 7, 4, 1]) (m := 3) hD.1 rfl hR (by decide) (fun q => (hv q).trans (aw_val q))
  replace hb0 := hb0.trans (hb1.mono hb0.size)
  clear ho hA hB hC hb1 hR hv
  replace hD := Lib.hid hD
  go_wp2_with fail
  refine calls_at (fun W2 hW => ?_)
  have hA : Blk W2 w1.heap.size 35 (dotL [2, 1, 1, 1]).toArray := by rw [hW]; exact (Blk.new w1 _ _).alloc _
  have hC : Blk W2 (w1.heap.size + 1) 23 #[.slice (some ⟨w1.heap.size, 0, none⟩) 2 2] := by rw [hW]; exact blk_at (by simp) (Blk.new (w1.alloc _) _ _)
  have hb2 : Below w1.heap.size w1 W2 := by rw [hW]; exact ((Below.refl _ _).alloc (Nat.le_refl _) _).alloc (by simp) _
  clear hW
  refine (join1_no _ _ _ 2 2 _ (by decide) W2 hC (dots_blk 2 _ hA rfl) (by decide)).mono ?_
  rintro e w3 ⟨q3, m3, cc3, es3, rfl, ho, hR, hv, hb3⟩
  have hD3 := own_dots ho
  obtain ⟨rfl, rfl⟩ := eqL_val (ys := []) (m := 0) hD3.1 rfl hR (by decide) (fun q => by rw [hv]; rfl)
  have hb4 := hb2.trans (hb3.mono hb2.size)
  replace hD := Lib.hid (hD.out.below hb4)
  replace hb0 := hb0.trans (hb4.mono hb0.size)
  clear ho hA hC hb2 hb3 hR hv hD3 hb4
  go_wp2_with fail
  refine calls_at (fun W4 hW => ?_)
  have hA : Blk W4 w3.heap.size 35 (dotL [1, 3, 2, 7, 4, 1]).toArray := by rw [hW]; exact Blk.new w3 _ _
  have hb2 : Below w3.heap.size w3 W4 := by rw [hW]; exact (Below.refl _ _).alloc (Nat.le_refl _) _
  replace hD := Lib.hid (hD.out.below hb2)
  replace hb0 := hb0.trans (hb2.mono hb0.size)
  clear hW hb2
  refine (sameDots_c _ _ 3 _ 3 _ _ _ (by decide) (by decide) W4 hD.out (dots_blk 3 _ hA rfl)).mono ?_
  rintro e w5 ⟨rfl, hb5⟩
  replace hD := Lib.hid (hD.out.below hb5)
  replace hb0 := hb0.trans (hb5.mono hb0.size)
  rw [show eqL [1, 3, 2, 7, 4, 1] [1, 3, 2, 7, 4, 1] = true from rfl]
  clear hb5 hA
  have h13 := fun w' hb => vhas_c q 3 cc (lD [1, 3, 2, 7, 4, 1]) 1 3 (by decide) w' ((hD.out.2).below (w := w5) (w' := w') hb)
  have h14 := fun w' hb => vhas_c q 3 cc (lD [1, 3, 2, 7, 4, 1]) 1 4 (by decide) w' ((hD.out.2).below (w := w5) (w' := w') hb)
  have h31 := fun w' hb => vhas_c q 3 cc (lD [1, 3, 2, 7, 4, 1]) 3 1 (by decide) w' ((hD.out.2).below (w := w5) (w' := w') hb)
  rw [show hasV 3 (lD [1, 3, 2, 7, 4, 1]) 1 3 = true by decide] at h13
  rw [show hasV 3 (lD [1, 3, 2, 7, 4, 1]) 1 4 = false by decide] at h14
  rw [show hasV 3 (lD [1, 3, 2, 7, 4, 1]) 3 1 = false by decide] at h31
  replace h13 := Lib.hid h13
  replace h14 := Lib.hid h14
  replace h31 := Lib.hid h31
  clear hD
  go_wp2_with fail
  refine (h13.out _ (Below.refl _ _)).mono ?_
  rintro e w6 ⟨rfl, hb6⟩
  go_wp2_with fail
  refine (h14.out _ hb6).mono ?_
  rintro e w7 ⟨rfl, hb7⟩
  replace hb7 := hb6.trans (hb7.mono hb6.size)
  go_wp2_with fail
  refine (h31.out _ hb7).mono ?_
  rintro e w8 ⟨rfl, hb8⟩
  replace hb8 := hb7.trans (hb8.mono hb7.size)
  clear h13 h14 h31
  go_wp2
  go_returns
  exact ⟨rfl, hb0.trans (hb8.mono hb0.size)⟩
end Go.Proofs.YtofgkfdfondajaaGreat
