/- The walks of RecordOf, RootOf, RecordsOf, great. -/
import Derived.Test.YtdgaoljobpneaaaHn
namespace Go.Proofs.Ytdgaoljobpneaaa
open Go.RowKit
def recN (r : RecD) : Nat := 1 + r.n + (r.k.size + r.vs.length + r.ss.length) / 8
def rootN (r : RootD) : Nat := 1 + (r.sum.length + r.sig.length) / 8
theorem quo8 (a : Nat) : (Int.tdiv (a : Int) 8) = ((a / 8 : Nat) : Int) := by
  rw [Int.tdiv_eq_ediv_of_nonneg (by omega)]
  omega
set_option maxRecDepth 20000 in
set_option maxHeartbeats 2000000 in
theorem recordOf_c (r : RecD) (p1 : Option Addr) (c1 : Nat) (p2 : Option Addr) (c2 : Nat) (p3 : Option Addr) (c3 : Nat) (hk : r.k.size + r.vs.length + r.ss.length + r.n ≤ 1000000000000000) (w : World) :
    Calls Try.prog 73 #[recV r p1 c1 p2 c2 p3 c3] w fun e w' => e = .returned (.int .i64 (recN r : Nat)) ∧ Below w.heap.size w w' := by
  obtain ⟨k, cl, sq, n, ds, gone, vs, ss⟩ := r
  unfold recV recN
  dsimp only at hk ⊢
  generalize vs.length = V at *
  generalize ss.length = Z at *
  have hb := Lib.hid hk
  go_enter Try.func73, Try.ntmps73
  go_wp2
  go_returns
  refine ⟨?_, (Below.refl _ _).alloc (Nat.le_refl _) _⟩
  show Ending.returned (Value.int .i64 (1 + (n : Int) + ((k.size : Int) + (V : Int) + (Z : Int)) / 8)) = _
  rw [show 1 + (n : Int) + ((k.size : Int) + (V : Int) + (Z : Int)) / 8 = ((1 + n + (k.size + V + Z) / 8 : Nat) : Int) by omega]
set_option maxRecDepth 20000 in
set_option maxHeartbeats 2000000 in
theorem rootOf2_c (r : RootD) (p1 : Option Addr) (c1 : Nat) (p2 : Option Addr) (c2 : Nat) (hk : r.sum.length + r.sig.length ≤ 1000000000000000) (w : World) :
    Calls Try.prog 40 #[rootV r p1 c1 p2 c2] w fun e w' => e = .returned (.int .i64 (rootN r : Nat)) ∧ Below w.heap.size w w' := by
  obtain ⟨rr, rh, rq, vs, ss⟩ := r
  unfold rootV rootN
  dsimp only at hk ⊢
  generalize vs.length = V at *
  generalize ss.length = Z at *
  go_enter Try.func40, Try.ntmps40
  go_wp2
  go_returns
  refine ⟨?_, (Below.refl _ _).alloc (Nat.le_refl _) _⟩
  show Ending.returned (Value.int .i64 (1 + ((V : Int) + (Z : Int)) / 8)) = _
  rw [show 1 + ((V : Int) + (Z : Int)) / 8 = ((1 + (V + Z) / 8 : Nat) : Int) by omega]
/-- the sum of what is gone through: no more is added once it is past the bound -/
def sumN {α : Type} (N : α → Nat) (b : Nat) : List α → Nat → Nat
  | [], a => a
  | x :: l, a => if a ≤ b then sumN N b l (a + N x) else a
theorem sumN_stop {α : Type} (N : α → Nat) (b : Nat) : ∀ (l : List α) (a : Nat), b < a → sumN N b l a = a
  | [], _, _ => rfl
  | _ :: _, a, h => if_neg (by omega)
/-- what is gone through of the first k -/
theorem sumN_snoc {α : Type} (N : α → Nat) (b : Nat) (x : α) : ∀ (l : List α) (a : Nat), sumN N b l a ≤ b → sumN N b (l ++ [x]) a = sumN N b l a + N x
  | [], a, h => by simp only [List.nil_append, sumN] at h ⊢; rw [if_pos h]
  | y :: l, a, h => by
    simp only [List.cons_append, sumN] at h ⊢
    by_cases h2 : a ≤ b
    · rw [if_pos h2] at h ⊢
      rw [if_pos h2]
      exact sumN_snoc N b x l _ h
    · rw [if_neg h2] at h
      omega
theorem sumN_past {α : Type} (N : α → Nat) (b : Nat) : ∀ (l m : List α) (a : Nat), b < sumN N b l a → sumN N b (l ++ m) a = sumN N b l a
  | [], m, a, h => sumN_stop N b m a h
  | y :: l, m, a, h => by
    simp only [List.cons_append, sumN] at h ⊢
    split
    · rename_i h2
      rw [if_pos h2] at h
      exact sumN_past N b l m _ h
    · rfl
theorem sumN_le {α : Type} (N : α → Nat) (b : Nat) : ∀ (l : List α) (a : Nat), sumN N b l a ≤ b → a ≤ sumN N b l a ∧ ∀ x, x ∈ l → N x ≤ b
  | [], a, h => ⟨Nat.le_refl _, fun x hx => by cases hx⟩
  | y :: l, a, h => by
    simp only [sumN] at h ⊢
    by_cases h2 : a ≤ b
    · rw [if_pos h2] at h ⊢
      obtain ⟨h3, h4⟩ := sumN_le N b l _ h
      refine ⟨by omega, fun x hx => ?_⟩
      rcases List.mem_cons.1 hx with rfl | hx
      · omega
      · exact h4 x hx
    · rw [if_neg h2] at h
      omega
theorem sumN_max {α : Type} (N : α → Nat) (b c : Nat) (hN : ∀ x, N x ≤ c) : ∀ (l : List α) (a : Nat), sumN N b l a ≤ max a (b + c)
  | [], a => by simp only [sumN]; omega
  | y :: l, a => by
    simp only [sumN]
    split
    · have := sumN_max N b c hN l (a + N y)
      have := hN y
      omega
    · omega
def recFit (r : RecD) : Prop := r.k.size + r.vs.length + r.ss.length + r.n ≤ 1000000000000000
def rootFit (r : RootD) : Prop := r.sum.length + r.sig.length ≤ 1000000000000000
theorem recN_le {r : RecD} (h : recFit r) : recN r ≤ 2000000000000000 := by unfold recN; unfold recFit at h; omega
theorem rootN_le {r : RootD} (h : rootFit r) : rootN r ≤ 2000000000000000 := by unfold rootN; unfold rootFit at h; omega
theorem take_snoc {α : Type} {l : List α} {k : Nat} {r : α} (h : l[k]? = some r) : l.take (k + 1) = l.take k ++ [r] := by
  have hi := (List.getElem?_eq_some_iff.1 h).1
  have := List.getElem?_eq_getElem hi
  rw [this] at h
  rw [List.take_succ_eq_append_getElem hi, Option.some.inj h]
set_option maxRecDepth 20000 in
set_option maxHeartbeats 4000000 in
theorem recordsOf_c (p : Option Addr) (c : Nat) (b : Nat) (rs : List RecD) (hf : ∀ r, r ∈ rs → recFit r) (hb : b ≤ 100000) (hl : rs.length ≤ 1000000000000) (w : World) (hR : RecsF [] w p rs) :
    Calls Try.prog 39 #[.slice p rs.length c, .int .i64 (b : Nat)] w fun e w' => e = .returned (.int .i64 (sumN recN b rs 0 : Nat)) ∧ Below w.heap.size w w' := by
  obtain ⟨N, hN⟩ : ∃ N, N = rs.length := ⟨_, rfl⟩
  obtain ⟨T, hT⟩ : ∃ T : Nat → Nat, T = fun k => sumN recN b (rs.take k) 0 := ⟨_, rfl⟩
  have hT0 : T 0 = 0 := by rw [hT]; rfl
  have hTN : sumN recN b rs 0 = T N := by rw [hT, hN]; show _ = sumN recN b (rs.take rs.length) 0; rw [List.take_length]
  have hTs : ∀ k r, rs[k]? = some r → T k ≤ b → T (k + 1) = T k + recN r := fun k r h h2 => by rw [hT] at h2 ⊢; show sumN recN b (rs.take (k + 1)) 0 = _; rw [take_snoc h]; exact sumN_snoc recN b r _ _ h2
  have hTp : ∀ k, b < T k → T N = T k := fun k h => by
    rw [← hTN, hT]
    rw [hT] at h
    have := sumN_past recN b (rs.take k) (rs.drop k) 0 h
    rw [List.take_append_drop] at this
    exact this
  rw [← hN, hTN]
  rw [← hN] at hl
  clear hT hTN
  replace hT0 := Lib.hid hT0
  replace hTs := Lib.hid hTs
  replace hTp := Lib.hid hTp
  replace hR := Lib.hid hR
  replace hf := Lib.hid hf
  replace hN := Lib.hid hN
  go_enter Try.func39, Try.ntmps39
  go_wp2
  go_loopw [5, 6] (fun v i wr => ∃ k : Nat, k ≤ N ∧ i = .int .i64 k ∧ v = .int .i64 (T k : Nat) ∧ T k ≤ 2000000000100000 ∧ Below w.heap.size w wr) (fun _ i _ => (N - intOf i).toNat)
  case atStart => exact ⟨0, by omega, rfl, by rw [hT0.out]; rfl, by rw [hT0.out]; omega, Below.refl _ _⟩
  case round =>
    obtain ⟨k, hk, hi, hv, hTb, hb0⟩ := hrel
    subst hi hv
    by_cases he : k = N
    · subst he
      clear hk
      go_wp2
      go_returns
      exact ⟨rfl, hb0⟩
    · have hk0 : (0 : Int) ≤ (k : Int) := by omega
      have hk1 : (k : Int) < (N : Int) := by omega
      have hka : k < rs.length := by have := hN.out; omega
      by_cases hbt : T k ≤ b
      · have hbt2 : (T k : Int) ≤ (b : Int) := by omega
        obtain ⟨ga, oa, rfl, hga, -, hca⟩ := hR.out (by omega)
        have ea := List.getElem?_eq_getElem hka
        generalize rs[k] = r at ea
        obtain ⟨va, hva, hj⟩ := hca k r ea
        have hfit := hf.out r (List.mem_of_getElem? ea)
        have hts := hTs.out k r ea hbt
        have hrn := recN_le hfit
        obtain ⟨p1, c1, p2, c2, p3, c3, rfl, -, -, -⟩ := hva
        have hro := fun w1 => recordOf_c r p1 c1 p2 c2 p3 c3 hfit w1
        unfold recV at hro
        have y0 : wr.cell? ⟨ga, oa + k * 7, none⟩ = some (.string r.k) := (hb0.cell (p := ⟨ga, oa + k * 7, none⟩) hga).trans (hj 0 _ rfl)
        have y1 : wr.cell? ⟨ga, oa + k * 7 + 1, none⟩ = some (.int .i64 r.cl) := (hb0.cell (p := ⟨ga, oa + k * 7 + 1, none⟩) hga).trans (hj 1 _ rfl)
        have y2 : wr.cell? ⟨ga, oa + k * 7 + 2, none⟩ = some (.int .i64 r.sq) := (hb0.cell (p := ⟨ga, oa + k * 7 + 2, none⟩) hga).trans (hj 2 _ rfl)
        have y3 : wr.cell? ⟨ga, oa + k * 7 + 3, none⟩ = some (.slice p1 r.n c1) := (hb0.cell (p := ⟨ga, oa + k * 7 + 3, none⟩) hga).trans (hj 3 _ rfl)
        have y4 : wr.cell? ⟨ga, oa + k * 7 + 4, none⟩ = some (.bool r.gone) := (hb0.cell (p := ⟨ga, oa + k * 7 + 4, none⟩) hga).trans (hj 4 _ rfl)
        have y5 : wr.cell? ⟨ga, oa + k * 7 + 5, none⟩ = some (.slice p2 r.vs.length c2) := (hb0.cell (p := ⟨ga, oa + k * 7 + 5, none⟩) hga).trans (hj 5 _ rfl)
        have y6 : wr.cell? ⟨ga, oa + k * 7 + 6, none⟩ = some (.slice p3 r.ss.length c3) := (hb0.cell (p := ⟨ga, oa + k * 7 + 6, none⟩) hga).trans (hj 6 _ rfl)
        generalize recN r = Z at *
        replace hts := Lib.hid hts
        replace hro := Lib.hid hro
        clear he hca hj hka ea hbt hfit
        generalize T k = A at *
        go_wp2_with fail
        refine (hro.out _).mono ?_
        rintro e w1 ⟨rfl, hb1⟩
        have hb2 := hb0.trans (hb1.mono hb0.size)
        clear hro y0 y1 y2 y3 y4 y5 y6
        go_wp2
        exact ⟨⟨k + 1, by omega, rfl, by rw [hts.out]; rfl, by rw [hts.out]; omega, hb2⟩, by simp [intOf]; omega⟩
      · have hbt2 : ¬ (T k : Int) ≤ (b : Int) := by omega
        have hp := Lib.hid (hTp.out k (by omega))
        clear he hka hbt
        go_wp2
        go_returns
        exact ⟨by rw [hp.out]; rfl, hb0⟩
end Go.Proofs.Ytdgaoljobpneaaa
