/- The walk of vector.Join. -/
import Derived.Test.YtofgkfdfondajaaGreatWr
namespace Go.Proofs.YtofgkfdfondajaaGreat
open Go.RowKit
/-- what a vector says that others are joined to -/
def joinV (N : Nat → Nat) (L : Nat → List Int) : Nat → Int → Int
  | 0 => fun _ => 0
  | i + 1 => upsV (L i) (N i) (joinV N L i)
def joinA (N : Nat → Nat) (L : Nat → List Int) (n : Nat) (q : Int) : Int := if ∀ i, i < n → rightD (N i) (lD (L i)) = true then joinV N L n q else 0
/-- a new vector that says V -/
def PostV (V : Int → Int) (w : World) (e : Ending) (w' : World) : Prop := ∃ q m cc es, e = .returned (.slice q m cc) ∧ w'.ownsRow w.heap.size 35 2 (.slice q m cc) m (dotL es) ∧ RightD m (lD es) ∧ (∀ r, valD m (lD es) r = V r) ∧ Below w.heap.size w w'
theorem post_none (V : Int → Int) (w w' : World) (hV : ∀ r, V r = 0) (hb : Below w.heap.size w w') : PostV V w (.returned (.slice none 0 0)) w' :=
  ⟨none, 0, 0, [], rfl, ⟨rfl, .inl ⟨rfl, rfl⟩⟩, fun i hi => absurd hi (by omega), fun r => (hV r).symm, hb⟩
set_option maxRecDepth 20000 in
set_option maxHeartbeats 4000000 in
theorem join_c (p : Option Addr) (n c : Nat) (P : Nat → Option Addr) (N C : Nat → Nat) (L : Nat → List Int) (hn : n ≤ 1000000) (hN : ∀ i, i < n → N i ≤ 1000) (w : World) (hR : RowAt w p n (fun i => .slice (P i) (N i) (C i))) (hL : ∀ i, i < n → DotsL w (P i) (N i) (L i)) :
    Calls Tryz.prog 8 #[.slice p n c] w (PostV (joinA N L n) w) := by
  have hno : ∀ i, i < n → rightD (N i) (lD (L i)) = false → ∀ r, joinA N L n r = 0 := fun i hi h r => if_neg (fun h2 => by rw [h2 i hi] at h; cases h)
  have hyes : (∀ i, i < n → rightD (N i) (lD (L i)) = true) → ∀ r, joinA N L n r = joinV N L n r := fun h r => if_pos h
  generalize joinA N L n = VA at *
  replace hno := Lib.hid hno
  replace hyes := Lib.hid hyes
  replace hN := Lib.hid hN
  replace hR := Lib.hid hR
  replace hL := Lib.hid hL
  go_enter Tryz.func8, Tryz.ntmps8
  go_wp2
  refine at_world (fun W1 hW => ?_)
  have hG : Blk W1 w.heap.size 41 #[.slice none 0 0] := by rw [hW]; exact Blk.new _ _ _
  have hbw : Below w.heap.size w W1 := by rw [hW]; exact (Below.refl _ _).alloc (Nat.le_refl _) _
  clear hW
  have hJ0 : JoinS w.heap.size w.heap.size (joinV N L 0) W1 := ⟨.slice none 0 0, 0, [], hG, ⟨rfl, .inl ⟨rfl, rfl⟩⟩, fun i hi => absurd hi (by omega), fun _ => rfl, ⟨Nat.le_refl _, fun h => by cases h⟩, Nat.le_of_lt hG.lt⟩
  clear hG
  replace hJ0 := Lib.hid hJ0
  go_loopw [8] (fun i wr => ∃ k : Nat, k ≤ n ∧ i = .int .i64 k ∧ JoinS w.heap.size w.heap.size (joinV N L k) wr ∧ Below w.heap.size w wr ∧ ∀ i, i < k → rightD (N i) (lD (L i)) = true) (fun i _ => (n - intOf i).toNat)
  case atStart => exact ⟨0, by omega, rfl, hJ0.out, hbw, fun i hi => absurd hi (by omega)⟩
  case round =>
    clear hJ0 hbw
    obtain ⟨k, hk, hi, hS, hb, hK⟩ := hrel
    subst hi
    by_cases he : k = n
    · subst he
      have hval := Lib.hid (hyes.out hK)
      obtain ⟨v, m, ds, hBJ, hown, hRD, hv, hJB, hBw⟩ := hS
      obtain ⟨q, cc, rfl, hDq⟩ := own_form hown
      have hP : PostV VA w (.returned (.slice q m cc)) wr := ⟨q, m, cc, ds, rfl, hown, hRD, fun r => by rw [hv, hval.out], hb⟩
      replace hP := Lib.hid hP
      have c0 : wr.cell? ⟨w.heap.size, 0, none⟩ = some (.slice q m cc) := hBJ.cell 0
      clear hK hk hval hown hRD hv hDq hBJ hyes hno
      go_wp2
      go_returns
      exact hP.out
    · have hk0 : (0 : Int) ≤ (k : Int) := by omega
      have hk1 : (k : Int) < (n : Int) := by omega
      have hk2 : k < n := by omega
      obtain ⟨g, o, rfl, hg, hc⟩ := hR.out (by omega)
      have c0 : wr.cell? ⟨g, o + k, none⟩ = some (.slice (P k) (N k) (C k)) := (hb.cell (p := ⟨g, o + k, none⟩) hg).trans (hc k hk2)
      have hbJ : Below w.heap.size w wr := hb
      have hD := (hL.out k hk2).below hbJ
      have hpB : 0 < N k → ∀ ad, P k = some ad → ad.block < w.heap.size := fun h0 ad e => by
        obtain ⟨g, o, e2, hg, _⟩ := (hL.out k hk2).2 (by omega)
        rw [e2] at e
        injection e with e
        subst e
        exact hg
      have hNk := hN.out k hk2
      have hnx : joinV N L (k + 1) = upsV (L k) (N k) (joinV N L k) := rfl
      have hnok := hno.out k hk2
      have hKx : rightD (N k) (lD (L k)) = true → ∀ i, i < k + 1 → rightD (N i) (lD (L i)) = true := fun h i hi => by
        by_cases e : i = k
        · rw [e]; exact h
        · exact hK i (by omega)
      have hrt := fun w' hb => vright_c (P k) (N k) (C k) (lD (L k)) (by omega) w' ((hD.2).below (w := wr) (w' := w') hb)
      have hput := fun w' hS hb hok => put_c w.heap.size w.heap.size (joinV N L k) (P k) (N k) (C k) (L k) hNk w' hS (hD.below hb) hpB hok
      replace hnok := Lib.hid hnok
      replace hnx := Lib.hid hnx
      replace hKx := Lib.hid hKx
      replace hrt := Lib.hid hrt
      replace hput := Lib.hid hput
      replace hS := Lib.hid hS
      clear hK hD hpB hNk hc
      generalize joinV N L k = V0 at *
      generalize P k = pk at *
      generalize N k = nk at *
      generalize C k = ck at *
      generalize L k = ls at *
      go_wp2_with fail
      refine (hrt.out _ (Below.refl _ _)).mono ?_
      rintro e w2 ⟨rfl, hb2⟩
      have hS2 : JoinS w.heap.size w.heap.size V0 w2 := by
        obtain ⟨v, m, ds, hBJ, hown, hRD, hv, hJB, hBw⟩ := hS.out
        exact ⟨v, m, ds, hBJ.below hb2, below_kept hown hb2, hRD, hv, hJB, Nat.le_trans hBw hb2.size⟩
      have hb3 : Below w.heap.size w w2 := hb.trans (hb2.mono hb.size)
      replace hS2 := Lib.hid hS2
      cases hr : rightD nk (lD ls)
      · have hz := hnok.out hr
        have hP := Lib.hid (post_none VA w w2 hz (hb3))
        clear hr hz hS2 hKx hput hrt
        go_wp2
        go_returns
        exact hP.out
      · have hK1 := Lib.hid (hKx.out hr)
        have hok : ∀ i, i < nk → okD (lD ls (i * 2)) (lD ls (i * 2 + 1)) = true := fun i hi => (of_decide_eq_true hr i hi).1
        have hp2 := Lib.hid (hput.out w2 hS2.out hb2 hok)
        clear hr hok hKx hput hrt hnok hS2 hS
        go_wp2_with fail
        refine hp2.out.mono ?_
        rintro e w4 ⟨rfl, h4, h5, h6⟩
        have hS4 : JoinS w.heap.size w.heap.size (joinV N L (k + 1)) w4 := by rw [hnx.out]; exact h4
        have hb4 : Below w.heap.size w w4 := hb3.trans (h5.mono (Nat.le_refl _))
        replace hS4 := Lib.hid hS4
        clear h4 h5 h6 hp2
        go_wp2
        exact ⟨⟨k + 1, by omega, rfl, hS4.out, hb4, hK1.out⟩, by simp [intOf]; omega⟩
end Go.Proofs.YtofgkfdfondajaaGreat
