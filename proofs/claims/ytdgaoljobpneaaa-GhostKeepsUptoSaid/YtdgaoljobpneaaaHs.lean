/- The walk of great. -/
import Derived.Test.YtdgaoljobpneaaaHr
namespace Go.Proofs.Ytdgaoljobpneaaa
open Go.RowKit
/-- is it more than is gone through? -/
def greatB28 (L : List RecD) (M : List RootD) : Bool := decide (2500 < sumN rootN 2500 M (M.length + sumN recN 2500 L 0)) || (decide (200 < L.length) || decide (200 < M.length))
set_option maxRecDepth 20000 in
set_option maxHeartbeats 8000000 in
theorem great28_c (p q : Option Addr) (c d : Nat) (rs : List RecD) (ms : List RootD) (hf : ∀ r, r ∈ rs → recFit r) (hg : ∀ r, r ∈ ms → rootFit r) (hl : rs.length ≤ 1000000000000) (hlm : ms.length ≤ 1000000000000) (w : World) (hR : RecsF [] w p rs) (hM : RootsF [] w q ms) :
    Calls Try.prog 13 #[.slice p rs.length c, .slice q ms.length d] w fun e w' => e = .returned (.bool (greatB28 rs ms)) ∧ Below w.heap.size w w' := by
  have hrc := recordsOf_c p c 2500 rs hf (by omega) hl w hR
  obtain ⟨A, hA⟩ : ∃ A, A = sumN recN 2500 rs 0 := ⟨_, rfl⟩
  have hAb : A ≤ 2000000000100000 := by
    have : ∀ (l : List RecD) (a : Nat), (∀ r, r ∈ l → recFit r) → a ≤ 2000000000002500 → sumN recN 2500 l a ≤ 2000000000002500 := by
      intro l
      induction l with
      | nil => intro a _ h; exact h
      | cons x l ih =>
        intro a hx h
        simp only [sumN]
        split
        · exact ih _ (fun r hr => hx r (List.mem_cons_of_mem _ hr)) (by have := recN_le (hx x (List.mem_cons_self ..)); omega)
        · exact h
    rw [hA]
    exact Nat.le_trans (this rs 0 hf (by omega)) (by omega)
  have hgr : greatB28 rs ms = (decide (2500 < sumN rootN 2500 ms (ms.length + A)) || (decide (200 < rs.length) || decide (200 < ms.length))) := by rw [hA]; rfl
  rw [← hA] at hrc
  rw [hgr]
  obtain ⟨N, hN⟩ : ∃ N, N = ms.length := ⟨_, rfl⟩
  obtain ⟨T, hT⟩ : ∃ T : Nat → Nat, T = fun k => sumN rootN 2500 (ms.take k) (ms.length + A) := ⟨_, rfl⟩
  have hT0 : T 0 = N + A := by rw [hT, hN]; rfl
  have hTN : sumN rootN 2500 ms (ms.length + A) = T N := by rw [hT, hN]; show _ = sumN rootN 2500 (ms.take ms.length) _; rw [List.take_length]
  have hTs : ∀ k r, ms[k]? = some r → T k ≤ 2500 → T (k + 1) = T k + rootN r := fun k r h h2 => by rw [hT] at h2 ⊢; show sumN rootN 2500 (ms.take (k + 1)) _ = _; rw [take_snoc h]; exact sumN_snoc rootN 2500 r _ _ h2
  have hTp : ∀ k, 2500 < T k → T N = T k := fun k h => by
    rw [← hTN, hT]
    rw [hT] at h
    have := sumN_past rootN 2500 (ms.take k) (ms.drop k) _ h
    rw [List.take_append_drop] at this
    exact this
  rw [hTN, ← hN]
  rw [← hN] at hlm
  obtain ⟨G, hG⟩ : ∃ G, G = rs.length := ⟨_, rfl⟩
  rw [← hG] at hrc hl ⊢
  clear hT hTN hgr hA
  replace hT0 := Lib.hid hT0
  replace hTs := Lib.hid hTs
  replace hTp := Lib.hid hTp
  replace hM := Lib.hid hM
  replace hg := Lib.hid hg
  replace hN := Lib.hid hN
  replace hrc := Lib.hid hrc
  clear hf hR hG
  obtain ⟨R, hRe⟩ : ∃ R, R = (decide (2500 < T N) || (decide (200 < G) || decide (200 < N))) := ⟨_, rfl⟩
  rw [← hRe]
  have fin : ∀ t : Nat, T N = t → R = (decide (2500 < t) || (decide (200 < G) || decide (200 < N))) := fun t h => by rw [hRe, h]
  clear hRe
  replace fin := Lib.hid fin
  go_enter Try.func13, Try.ntmps13
  go_wp2_with fail
  refine hrc.out.mono ?_
  rintro e w1 ⟨rfl, hb⟩
  clear hrc
  go_wp2
  go_loopw [5, 6] (fun v i wr => ∃ k : Nat, k ≤ N ∧ i = .int .i64 k ∧ v = .int .i64 (T k : Nat) ∧ T k ≤ 4000000000200000 ∧ Below w.heap.size w wr) (fun _ i _ => (N - intOf i).toNat)
  case atStart => exact ⟨0, by omega, rfl, by rw [hT0.out]; simp, by rw [hT0.out]; omega, hb⟩
  case round =>
    clear hb
    obtain ⟨k, hk, hi, hv, hTb, hb0⟩ := hrel
    subst hi hv
    by_cases he : k = N
    · subst he
      obtain ⟨t, ht⟩ : ∃ t, T k = t := ⟨_, rfl⟩
      have hfin := fin.out t ht
      rw [ht] at hTb
      simp only [ht]
      clear fin hk ht
      by_cases t1 : 2500 < t
      · have t2 : (t : Int) > 2500 := by omega
        rw [decide_eq_true t1, Bool.true_or] at hfin
        clear t1
        replace hfin := Lib.hid hfin
        go_wp2
        go_returns
        exact ⟨by rw [hfin.out]; rfl, hb0⟩
      · have t2 : ¬ (t : Int) > 2500 := by omega
        rw [decide_eq_false t1, Bool.false_or] at hfin
        clear t1
        by_cases t3 : 200 < G
        · have t4 : (G : Int) > 200 := by omega
          rw [decide_eq_true t3, Bool.true_or] at hfin
          clear t3
          replace hfin := Lib.hid hfin
          go_wp2
          go_returns
          exact ⟨by rw [hfin.out]; rfl, hb0⟩
        · have t4 : ¬ (G : Int) > 200 := by omega
          rw [decide_eq_false t3, Bool.false_or] at hfin
          clear t3
          by_cases t5 : 200 < k
          · have t6 : (k : Int) > 200 := by omega
            rw [decide_eq_true t5] at hfin
            clear t5
            replace hfin := Lib.hid hfin
            go_wp2
            go_returns
            exact ⟨by rw [hfin.out]; rfl, hb0⟩
          · have t6 : ¬ (k : Int) > 200 := by omega
            rw [decide_eq_false t5] at hfin
            clear t5
            replace hfin := Lib.hid hfin
            go_wp2
            go_returns
            exact ⟨by rw [hfin.out]; rfl, hb0⟩
    · have hk0 : (0 : Int) ≤ (k : Int) := by omega
      have hk1 : (k : Int) < (N : Int) := by omega
      have hka : k < ms.length := by have := hN.out; omega
      by_cases hbt : T k ≤ 2500
      · have hbt2 : (T k : Int) ≤ 2500 := by omega
        obtain ⟨ga, oa, rfl, hga, -, hca⟩ := hM.out (by omega)
        have ea := List.getElem?_eq_getElem hka
        generalize ms[k] = r at ea
        obtain ⟨va, hva, hj⟩ := hca k r ea
        have hfit := hg.out r (List.mem_of_getElem? ea)
        have hts := hTs.out k r ea hbt
        have hrn := rootN_le hfit
        obtain ⟨p1, c1, p2, c2, rfl, -, -⟩ := hva
        have hro := fun w1 => rootOf2_c r p1 c1 p2 c2 hfit w1
        unfold rootV at hro
        have y0 : wr.cell? ⟨ga, oa + k * 5, none⟩ = some (.int .i64 r.r) := (hb0.cell (p := ⟨ga, oa + k * 5, none⟩) hga).trans (hj 0 _ rfl)
        have y1 : wr.cell? ⟨ga, oa + k * 5 + 1, none⟩ = some (.int .i64 r.h) := (hb0.cell (p := ⟨ga, oa + k * 5 + 1, none⟩) hga).trans (hj 1 _ rfl)
        have y2 : wr.cell? ⟨ga, oa + k * 5 + 2, none⟩ = some (.int .i64 r.q) := (hb0.cell (p := ⟨ga, oa + k * 5 + 2, none⟩) hga).trans (hj 2 _ rfl)
        have y3 : wr.cell? ⟨ga, oa + k * 5 + 3, none⟩ = some (.slice p1 r.sum.length c1) := (hb0.cell (p := ⟨ga, oa + k * 5 + 3, none⟩) hga).trans (hj 3 _ rfl)
        have y4 : wr.cell? ⟨ga, oa + k * 5 + 4, none⟩ = some (.slice p2 r.sig.length c2) := (hb0.cell (p := ⟨ga, oa + k * 5 + 4, none⟩) hga).trans (hj 4 _ rfl)
        generalize rootN r = Z at *
        replace hts := Lib.hid hts
        replace hro := Lib.hid hro
        clear he hca hj hka ea hbt hfit
        generalize T k = A at *
        go_wp2_with fail
        refine (hro.out _).mono ?_
        rintro e w1 ⟨rfl, hb1⟩
        have hb2 := hb0.trans (hb1.mono hb0.size)
        clear hro y0 y1 y2 y3 y4
        go_wp2
        exact ⟨⟨k + 1, by omega, rfl, by rw [hts.out]; rfl, by rw [hts.out]; omega, hb2⟩, by simp [intOf]; omega⟩
      · have hbt2 : ¬ (T k : Int) ≤ 2500 := by omega
        obtain ⟨t, ht⟩ : ∃ t, T k = t := ⟨_, rfl⟩
        have hfin := fin.out t ((hTp.out k (by omega)).trans ht)
        rw [ht] at hTb hbt2
        simp only [ht]
        clear fin he hka hbt ht
        by_cases t1 : 2500 < t
        · have t2 : (t : Int) > 2500 := by omega
          rw [decide_eq_true t1, Bool.true_or] at hfin
          clear t1
          replace hfin := Lib.hid hfin
          go_wp2
          go_returns
          exact ⟨by rw [hfin.out]; rfl, hb0⟩
        · have t2 : ¬ (t : Int) > 2500 := by omega
          rw [decide_eq_false t1, Bool.false_or] at hfin
          clear t1
          by_cases t3 : 200 < G
          · have t4 : (G : Int) > 200 := by omega
            rw [decide_eq_true t3, Bool.true_or] at hfin
            clear t3
            replace hfin := Lib.hid hfin
            go_wp2
            go_returns
            exact ⟨by rw [hfin.out]; rfl, hb0⟩
          · have t4 : ¬ (G : Int) > 200 := by omega
            rw [decide_eq_false t3, Bool.false_or] at hfin
            clear t3
            by_cases t5 : 200 < N
            · have t6 : (N : Int) > 200 := by omega
              rw [decide_eq_true t5] at hfin
              clear t5
              replace hfin := Lib.hid hfin
              go_wp2
              go_returns
              exact ⟨by rw [hfin.out]; rfl, hb0⟩
            · have t6 : ¬ (N : Int) > 200 := by omega
              rw [decide_eq_false t5] at hfin
              clear t5
              replace hfin := Lib.hid hfin
              go_wp2
              go_returns
              exact ⟨by rw [hfin.out]; rfl, hb0⟩
end Go.Proofs.Ytdgaoljobpneaaa
