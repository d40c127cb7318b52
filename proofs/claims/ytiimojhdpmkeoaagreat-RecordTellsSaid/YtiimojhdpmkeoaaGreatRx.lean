/- The walks of the reference's Shape and Right (buttressref08). -/
import Derived.Test.YtiimojhdpmkeoaaGreatJg
import Derived.Test.YtiimojhdpmkeoaaGreatRh2
namespace Go.Proofs.YtiimojhdpmkeoaaGreat
open Go.RowKit
set_option maxRecDepth 20000 in
set_option maxHeartbeats 4000000 in
theorem rshape_c (k : ByteArray) (cl sq : Int) (p1 : Option Addr) (n1 c1 : Nat) (gone : Bool) (p2 : Option Addr) (n2 c2 : Nat) (p3 : Option Addr) (n3 c3 : Nat) (ds : List Int) (hn1 : n1 ≤ 1000000) (w : World) (hD : DotsL w p1 n1 ds) :
    Calls Tryz.prog 24 #[.agg #[.string k, .int .i64 cl, .int .i64 sq, .slice p1 n1 c1, .bool gone, .slice p2 n2 c2, .slice p3 n3 c3]] w fun e w' => e = .returned (.bool (shB k.size cl sq n1 ds gone n2)) ∧ Below w.heap.size w w' := by
  have hd := fun w' => rdot_c cl sq w'
  have hr := fun w' hb => rright_c p1 n1 c1 (dD ds) hn1 w' (hD.2.below (w := w) (w' := w') hb)
  have hh := fun w' hb => rhas_c p1 n1 c1 (dD ds) cl sq hn1 w' (hD.2.below (w := w) (w' := w') hb)
  rw [hasR_eq] at hh
  replace hd := Lib.hid hd
  replace hr := Lib.hid hr
  replace hh := Lib.hid hh
  clear hD
  obtain ⟨E, hE⟩ : ∃ E, E = shB k.size cl sq n1 ds gone n2 := ⟨_, rfl⟩
  rw [← hE]
  unfold shB at hE
  go_enter Tryz.func24, Tryz.ntmps24
  by_cases hk : 1 ≤ k.size ∧ k.size ≤ 64
  · have hk1 : ¬ (k.size : Int) < 1 := by omega
    have hk2 : ¬ (64 : Int) < (k.size : Int) := by omega
    rw [decide_eq_true hk, Bool.true_and] at hE
    replace hE := Lib.hid hE
    clear hk
    go_wp2_with fail
    refine calls_at (fun W0 hW => ?_)
    have hA : Blk W0 w.heap.size 25 #[.string k, .int .i64 cl, .int .i64 sq, .slice p1 n1 c1, .bool gone, .slice p2 n2 c2, .slice p3 n3 c3] := by rw [hW]; exact (Blk.new _ _ _).alloc _
    have hB : Blk W0 (w.heap.size + 1) 38 #[.int .i64 cl, .int .i64 sq] := by rw [hW]; exact blk_at (by simp) (Blk.new _ _ _)
    have hb0 : Below w.heap.size w W0 := by rw [hW]; go_grown
    clear hW
    refine (hd.out _).mono ?_
    rintro e w1 ⟨rfl, hb⟩
    replace hA := hA.below hb
    replace hB := hB.below hb
    replace hb0 := hb0.trans (hb.mono hb0.size)
    clear hb hd
    obtain ⟨y0, y1, y2, y3, y4, y5, y6⟩ := blk7 hA
    cases hK : okD cl sq
    · rw [hK, Bool.false_and] at hE
      clear hK
      go_wp2
      go_returns
      exact ⟨by rw [hE.out]; rfl, hb0⟩
    rw [hK, Bool.true_and] at hE
    clear hK
    go_wp2_with fail
    clear y0 y1 y2 y3 y4 y5 y6
    refine (hr.out _ hb0).mono ?_
    rintro e w2 ⟨rfl, hb⟩
    replace hA := hA.below hb
    replace hB := hB.below hb
    replace hb0 := hb0.trans (hb.mono hb0.size)
    clear hb hr
    obtain ⟨y0, y1, y2, y3, y4, y5, y6⟩ := blk7 hA
    obtain ⟨z0, z1⟩ := blk2 hB
    cases hK : rightD n1 (dD ds)
    · rw [hK, Bool.false_and] at hE
      clear hK
      go_wp2
      go_returns
      exact ⟨by rw [hE.out]; rfl, hb0⟩
    rw [hK, Bool.true_and] at hE
    clear hK
    go_wp2_with fail
    clear y0 y1 y2 y3 y4 y5 y6 z0 z1
    refine (hh.out _ hb0).mono ?_
    rintro e w3 ⟨rfl, hb⟩
    replace hA := hA.below hb
    replace hb0 := hb0.trans (hb.mono hb0.size)
    clear hb hh hB
    obtain ⟨y0, y1, y2, y3, y4, y5, y6⟩ := blk7 hA
    cases hK : hasV n1 (dD ds) cl sq
    · rw [hK, Bool.not_false, Bool.true_and] at hE
      clear hK
      by_cases h5 : n2 ≤ 1024
      · rw [decide_eq_true h5, Bool.true_and] at hE
        have h5b : (n2 : Int) ≤ 1024 := by omega
        clear h5
        cases gone
        · rw [Bool.not_false, Bool.true_or] at hE
          go_wp2
          go_returns
          exact ⟨by rw [hE.out]; rfl, hb0⟩
        · by_cases h6 : n2 = 0
          · rw [decide_eq_true h6, Bool.or_true] at hE
            subst h6
            go_wp2
            go_returns
            exact ⟨by rw [hE.out]; rfl, hb0⟩
          · rw [decide_eq_false h6, Bool.or_false, Bool.not_true] at hE
            have h6b : ((n2 : Int) == 0) = false := by simp; omega
            go_wp2
            go_returns
            exact ⟨by rw [hE.out]; rfl, hb0⟩
      · rw [decide_eq_false h5, Bool.false_and] at hE
        have h5b : ¬ (n2 : Int) ≤ 1024 := by omega
        clear h5
        go_wp2
        go_returns
        exact ⟨by rw [hE.out]; rfl, hb0⟩
    · rw [hK, Bool.not_true, Bool.false_and] at hE
      clear hK
      go_wp2
      go_returns
      exact ⟨by rw [hE.out]; rfl, hb0⟩
  · rw [decide_eq_false hk, Bool.false_and] at hE
    replace hE := Lib.hid hE
    by_cases h1 : (k.size : Int) < 1
    · clear hk
      go_wp2
      go_returns
      exact ⟨by rw [hE.out]; rfl, by go_grown⟩
    · have h2 : (64 : Int) < (k.size : Int) := by omega
      clear hk
      go_wp2
      go_returns
      exact ⟨by rw [hE.out]; rfl, by go_grown⟩
end Go.Proofs.YtiimojhdpmkeoaaGreat
