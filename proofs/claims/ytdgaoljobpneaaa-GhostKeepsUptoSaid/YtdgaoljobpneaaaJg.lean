/- The walks of record.Text, Right, Over, of great. -/
import Derived.Test.YtdgaoljobpneaaaJf
namespace Go.Proofs.Ytdgaoljobpneaaa
open Go.RowKit
theorem shB_true {K : Nat} {cl sq : Int} {n1 : Nat} {ds : List Int} {gone : Bool} {n2 : Nat} (h : shB K cl sq n1 ds gone n2 = true) : (1 ≤ K ∧ K ≤ 64) ∧ (1 ≤ cl ∧ cl ≤ 8 ∧ 1 ≤ sq ∧ sq ≤ 1073741824) ∧ RightD n1 (dD ds) ∧ hasV n1 (dD ds) cl sq = false ∧ n2 ≤ 1024 ∧ (gone = true → n2 = 0) := by
  unfold shB at h
  simp only [Bool.and_eq_true, decide_eq_true_eq, Bool.not_eq_true'] at h
  obtain ⟨h1, h2, h3, h4, h5, h6⟩ := h
  refine ⟨h1, of_decide_eq_true h2, of_decide_eq_true h3, h4, h5, fun hg => ?_⟩
  subst hg
  simpa using h6
theorem dots_range {n1 : Nat} {ds : List Int} (h : RightD n1 (dD ds)) : ∀ i, i < 2 * n1 → 0 ≤ dD ds i ∧ dD ds i < 4611686018427387904 := fun i hi => by
  have h1 := of_decide_eq_true (h (i / 2) (by omega)).1
  rcases Nat.mod_two_eq_zero_or_one i with hm | hm
  · rw [show i / 2 * 2 = i by omega] at h1; omega
  · rw [show i / 2 * 2 + 1 = i by omega] at h1; omega
/-- what Text answers -/
def txtL (k : ByteArray) (cl sq : Int) (n1 : Nat) (ds : List Int) (gone : Bool) (vs : List Int) : List Int := if shB k.size cl sq n1 ds gone vs.length then textL k cl sq n1 ds gone vs else []
set_option maxRecDepth 20000 in
set_option maxHeartbeats 4000000 in
theorem recText_o (k : ByteArray) (cl sq : Int) (p1 : Option Addr) (n1 c1 : Nat) (gone : Bool) (p2 : Option Addr) (n2 c2 : Nat) (p3 : Option Addr) (n3 c3 : Nat) (ds vs : List Int) (hn1 : n1 ≤ 400000) (hn2 : n2 = vs.length) (w : World) (hD : DotsL w p1 n1 ds) (hV : BytesL w p2 vs) :
    Calls Try.prog 16 #[.agg #[.string k, .int .i64 cl, .int .i64 sq, .slice p1 n1 c1, .bool gone, .slice p2 n2 c2, .slice p3 n3 c3]] w (PostO (txtL k cl sq n1 ds gone vs) w) := by
  have hsh := fun w' hb => shaped_c k cl sq p1 n1 c1 gone p2 n2 c2 p3 n3 c3 ds (by omega) w' (hD.below (w := w) (w' := w') hb)
  have htx := fun w' hb h1 h2 h3 h4 h5 h6 h7 => text_o k cl sq p1 n1 c1 gone p2 n2 c2 p3 n3 c3 ds vs h1 h2 h3 h4 h5 hn1 hn2 h6 w' (hD.below (w := w) (w' := w') hb) (hV.below hb) h7
  have htt : shB k.size cl sq n1 ds gone n2 = true → txtL k cl sq n1 ds gone vs = textL k cl sq n1 ds gone vs := fun h => by unfold txtL; rw [← hn2, if_pos h]
  have htf : shB k.size cl sq n1 ds gone n2 = false → txtL k cl sq n1 ds gone vs = [] := fun h => by unfold txtL; rw [← hn2, h]; rfl
  replace hsh := Lib.hid hsh
  replace htx := Lib.hid htx
  replace htt := Lib.hid htt
  replace htf := Lib.hid htf
  clear hD hV hn2 hn1
  generalize txtL k cl sq n1 ds gone vs = T at *
  go_enter Try.func16, Try.ntmps16
  go_wp2_with fail
  refine calls_at (fun W0 hW => ?_)
  have hG : Blk W0 (w.heap.size + 1) 79 #[.string k, .int .i64 cl, .int .i64 sq, .slice p1 n1 c1, .bool gone, .slice p2 n2 c2, .slice p3 n3 c3] := by rw [hW]; exact blk_at (by simp) (Blk.new _ _ _)
  have hb0 : Below w.heap.size w W0 := by rw [hW]; go_grown
  clear hW
  refine (hsh.out _ hb0).mono ?_
  rintro e w1 ⟨rfl, hb⟩
  replace hG := hG.below hb
  replace hb0 := hb0.trans (hb.mono hb0.size)
  clear hb hsh
  cases hs : shB k.size cl sq n1 ds gone n2
  · have ht := Lib.hid (htf.out hs)
    clear hs
    go_wp2
    go_returns
    exact ⟨.slice none 0 0, 0, rfl, by rw [ht.out]; exact ownB_nil, hb0⟩
  · have ht := htt.out hs
    obtain ⟨h1, h2, h3, h4, h5, h6⟩ := shB_true hs
    have hx := htx.out w1 hb0 h1.2 (by omega) (by omega) (by omega) (by omega) h5 (dots_range h3)
    rw [← ht] at hx
    replace hx := Lib.hid hx
    obtain ⟨y0, y1, y2, y3, y4, y5, y6⟩ := blk7 hG
    clear hs ht h1 h2 h3 h4 h5 h6 htx htt htf
    go_wp2_with fail
    clear y0 y1 y2 y3 y4 y5 y6
    refine hx.out.mono ?_
    rintro e w2 ⟨v2, n2', rfl, ho, hb⟩
    have ho2 := Lib.hid (own_mono ho hb0.size)
    replace hb0 := hb0.trans (hb.mono hb0.size)
    clear ho hb
    go_wp2
    go_returns
    exact ⟨_, _, rfl, ho2.out, hb0⟩
theorem recText_c (k : ByteArray) (cl sq : Int) (p1 : Option Addr) (n1 c1 : Nat) (gone : Bool) (p2 : Option Addr) (n2 c2 : Nat) (p3 : Option Addr) (n3 c3 : Nat) (ds vs : List Int) (hn1 : n1 ≤ 400000) (hn2 : n2 = vs.length) (w : World) (hD : DotsL w p1 n1 ds) (hV : BytesL w p2 vs) :
    Calls Try.prog 16 #[.agg #[.string k, .int .i64 cl, .int .i64 sq, .slice p1 n1 c1, .bool gone, .slice p2 n2 c2, .slice p3 n3 c3]] w (PostL (txtL k cl sq n1 ds gone vs) w) :=
  (recText_o k cl sq p1 n1 c1 gone p2 n2 c2 p3 n3 c3 ds vs hn1 hn2 w hD hV).mono fun _ _ h => h.l
def rightR (K : Nat) (cl sq : Int) (n1 : Nat) (ds : List Int) (gone : Bool) (n2 n3 : Nat) : Bool := shB K cl sq n1 ds gone n2 && decide (n3 = 64)
set_option maxRecDepth 20000 in
set_option maxHeartbeats 4000000 in
theorem recRight_c (k : ByteArray) (cl sq : Int) (p1 : Option Addr) (n1 c1 : Nat) (gone : Bool) (p2 : Option Addr) (n2 c2 : Nat) (p3 : Option Addr) (n3 c3 : Nat) (ds : List Int) (hn1 : n1 ≤ 400000) (w : World) (hD : DotsL w p1 n1 ds) :
    Calls Try.prog 51 #[.agg #[.string k, .int .i64 cl, .int .i64 sq, .slice p1 n1 c1, .bool gone, .slice p2 n2 c2, .slice p3 n3 c3]] w fun e w' => e = .returned (.bool (rightR k.size cl sq n1 ds gone n2 n3)) ∧ Below w.heap.size w w' := by
  have hsh := fun w' hb => shaped_c k cl sq p1 n1 c1 gone p2 n2 c2 p3 n3 c3 ds (by omega) w' (hD.below (w := w) (w' := w') hb)
  replace hsh := Lib.hid hsh
  clear hD
  obtain ⟨E, hE⟩ : ∃ E, E = rightR k.size cl sq n1 ds gone n2 n3 := ⟨_, rfl⟩
  rw [← hE]
  unfold rightR at hE
  replace hE := Lib.hid hE
  go_enter Try.func51, Try.ntmps51
  go_wp2_with fail
  refine calls_at (fun W0 hW => ?_)
  have hG : Blk W0 w.heap.size 25 #[.string k, .int .i64 cl, .int .i64 sq, .slice p1 n1 c1, .bool gone, .slice p2 n2 c2, .slice p3 n3 c3] := by rw [hW]; exact Blk.new _ _ _
  have hb0 : Below w.heap.size w W0 := by rw [hW]; exact (Below.refl _ _).alloc (Nat.le_refl _) _
  clear hW
  refine (hsh.out _ hb0).mono ?_
  rintro e w1 ⟨rfl, hb⟩
  replace hG := hG.below hb
  replace hb0 := hb0.trans (hb.mono hb0.size)
  clear hb hsh
  obtain ⟨y0, y1, y2, y3, y4, y5, y6⟩ := blk7 hG
  cases hs : shB k.size cl sq n1 ds gone n2
  · rw [hs, Bool.false_and] at hE
    clear hs
    go_wp2
    go_returns
    exact ⟨by rw [hE.out]; rfl, hb0⟩
  · rw [hs, Bool.true_and] at hE
    clear hs
    by_cases h : n3 = 64
    · rw [decide_eq_true h] at hE
      subst h
      go_wp2
      go_returns
      exact ⟨by rw [hE.out]; rfl, hb0⟩
    · rw [decide_eq_false h] at hE
      have h64 : ((n3 : Int) == 64) = false := by simp; omega
      go_wp2
      go_returns
      exact ⟨by rw [hE.out]; rfl, hb0⟩
/-- is a record too great? -/
def greatB (K n1 n2 n3 : Nat) : Bool := decide ((300 : Int) < (K : Int)) || decide ((50 : Int) < (n1 : Int)) || decide ((2000 : Int) < (n2 : Int)) || decide ((300 : Int) < (n3 : Int))
set_option maxRecDepth 20000 in
set_option maxHeartbeats 4000000 in
theorem great_c (k : ByteArray) (cl sq : Int) (p1 : Option Addr) (n1 c1 : Nat) (gone : Bool) (p2 : Option Addr) (n2 c2 : Nat) (p3 : Option Addr) (n3 c3 : Nat) (w : World) :
    Calls Try.prog 22 #[.agg #[.string k, .int .i64 cl, .int .i64 sq, .slice p1 n1 c1, .bool gone, .slice p2 n2 c2, .slice p3 n3 c3]] w fun e w' => e = .returned (.bool (greatB k.size n1 n2 n3)) ∧ Below w.heap.size w w' := by
  go_enter Try.func22, Try.ntmps22
  go_wp2
  all_goals
    go_returns
    refine ⟨?_, by go_grown⟩
    first
      | rfl
      | (rw [show greatB k.size n1 n2 n3 = true from by unfold greatB; simp only [Bool.or_eq_true, decide_eq_true_eq]; omega]; rfl)
end Go.Proofs.Ytdgaoljobpneaaa
