/- The walks of wire's Join and Bytes; of the kit's copies and comparisons. -/
import Derived.Test.YtdgaoljobpneaaaJa
import Derived.Test.YtdgaoljobpneaaaVb
namespace Go.Proofs.Ytdgaoljobpneaaa
open Go.RowKit
set_option maxHeartbeats 2000000 in
theorem join_o (g o K cc : Nat) (ps : List (List Int)) (hK : K = ps.length) (hT : ps.flatten.length ≤ 100000000) (hK2 : K ≤ 1000000) (w : World) (hP : PartsAt w g o ps) : Calls Try.prog 80 #[.slice (some ⟨g, o, none⟩) K cc] w (PostO ps.flatten w) := by
  have hc := concat_o g o K cc ps hK hT hK2 w hP
  replace hc := Lib.hid hc
  clear hP hK hT hK2
  go_enter Try.func80, Try.ntmps80
  go_wp2_with fail
  refine hc.out.mono ?_
  rintro e w1 ⟨v, n, rfl, ho, hb⟩
  replace ho := Lib.hid ho
  clear hc
  go_wp2
  go_returns
  exact ⟨v, n, rfl, ho.out, hb⟩
theorem join_c (g o K cc : Nat) (ps : List (List Int)) (hK : K = ps.length) (hT : ps.flatten.length ≤ 100000000) (hK2 : K ≤ 1000000) (w : World) (hP : PartsAt w g o ps) : Calls Try.prog 80 #[.slice (some ⟨g, o, none⟩) K cc] w (PostL ps.flatten w) :=
  (join_o g o K cc ps hK hT hK2 w hP).mono fun _ _ h => h.l
theorem parts2 {w : World} {g : Nat} {q1 q2 : Option Addr} {n1 n2 c1 c2 : Nat} {x1 x2 : List Int} (h : Blk w g 23 #[.slice q1 n1 c1, .slice q2 n2 c2]) (e1 : n1 = x1.length) (e2 : n2 = x2.length) (h1 : BytesL w q1 x1) (h2 : BytesL w q2 x2) : PartsAt w g 0 [x1, x2] :=
  ⟨h.lt, fun i hi => by
    have hi2 : i = 0 ∨ i = 1 := by simp at hi; omega
    rcases hi2 with rfl | rfl
    · exact ⟨q1, n1, c1, h.cell 0, e1, h1⟩
    · exact ⟨q2, n2, c2, h.cell 1, e2, h2⟩⟩
set_option maxHeartbeats 2000000 in
theorem bytes_c (p : Option Addr) (n c : Nat) (xs : List Int) (hn : n = xs.length) (hn2 : n ≤ 1000000) (w : World) (hB : BytesL w p xs) : Calls Try.prog 78 #[.slice p n c] w (PostL (numL n ++ xs) w) := by
  have hnm := number_c (n : Int) (by omega) (by omega)
  replace hnm := Lib.hid hnm
  replace hB := Lib.hid hB
  replace hn := Lib.hid hn
  go_enter Try.func78, Try.ntmps78
  go_wp2_with fail
  refine (hnm.out _).mono ?_
  rintro e w1 ⟨q, k, c1, rfl, hk, hQ, hb, -⟩
  have hB1 := Lib.hid (hB.out.below hb)
  replace hk := Lib.hid hk
  replace hQ := Lib.hid hQ
  clear hB
  go_wp2_with fail
  refine calls_at (fun W0 hW => ?_)
  have hG : Blk W0 w1.heap.size 23 #[.slice q k c1, .slice p n c] := by rw [hW]; exact Blk.new _ _ _
  have hbw : Below w1.heap.size w1 W0 := by rw [hW]; exact (Below.refl _ _).alloc (Nat.le_refl _) _
  clear hW
  have hP := parts2 hG hk.out hn.out (hQ.out.below hbw) (hB1.out.below hbw)
  have hlen : [numL (n : Int), xs].flatten.length ≤ 100000000 := by simp [numL_len, ← hn.out]; omega
  refine (join_c w1.heap.size 0 2 2 _ rfl hlen (by decide) W0 hP).mono ?_
  rintro e w2 ⟨r, m, c2, rfl, hm, hR, hb2, hf⟩
  have hb3 := hb.trans (hbw.mono hb.size)
  have hf2 : ∀ ad, r = some ad → w.heap.size ≤ ad.block := fun ad h => Nat.le_trans hb3.size (hf ad h)
  replace hf2 := Lib.hid hf2
  clear hf
  replace hb3 := hb3.trans (hb2.mono hb3.size)
  clear hP hlen hG hbw hb hb2 hQ hB1
  replace hm := Lib.hid hm
  replace hR := Lib.hid hR
  go_wp2
  go_returns
  exact ⟨r, m, c2, rfl, by rw [hm.out]; simp, by have := hR.out; simpa using this, hb3, hf2.out⟩
theorem ext_getD {xs ys : List Int} (hl : xs.length = ys.length) (h : ∀ j, j < xs.length → xs.getD j 0 = ys.getD j 0) : xs = ys := by
  apply List.ext_getElem hl
  intro j h1 h2
  have := h j h1
  simpa [h1, h2] using this
def eqL (xs ys : List Int) : Bool := decide (xs = ys)
set_option maxRecDepth 20000 in
set_option maxHeartbeats 4000000 in
theorem sameBytes_c (p1 p2 : Option Addr) (n1 c1 n2 c2 : Nat) (xs ys : List Int) (h1 : n1 = xs.length) (h2 : n2 = ys.length) (hn : n1 ≤ 1000000) (hn2 : n2 ≤ 1000000) (w : World) (hX : BytesL w p1 xs) (hY : BytesL w p2 ys) :
    Calls Try.prog 18 #[.slice p1 n1 c1, .slice p2 n2 c2] w fun e w' => e = .returned (.bool (eqL xs ys)) ∧ Below w.heap.size w w' := by
  have hne : n1 ≠ n2 → eqL xs ys = false := fun h => decide_eq_false (fun e => h (by rw [h1, h2, e]))
  have hyes : n1 = n2 → (∀ j, j < n1 → xs.getD j 0 = ys.getD j 0) → eqL xs ys = true := fun e h => decide_eq_true (ext_getD (by omega) (by rw [← h1]; exact h))
  have hno : ∀ j, xs.getD j 0 ≠ ys.getD j 0 → eqL xs ys = false := fun j h => decide_eq_false (fun e => h (by rw [e]))
  have hXc : 0 < n1 → ∃ g o, p1 = some ⟨g, o, none⟩ ∧ g < w.heap.size ∧ ∀ j, j < n1 → w.cell? ⟨g, o + j, none⟩ = some (.int .u8 (xs.getD j 0)) := by rw [h1]; exact hX
  have hYc : 0 < n2 → ∃ g o, p2 = some ⟨g, o, none⟩ ∧ g < w.heap.size ∧ ∀ j, j < n2 → w.cell? ⟨g, o + j, none⟩ = some (.int .u8 (ys.getD j 0)) := by rw [h2]; exact hY
  generalize eqL xs ys = E at *
  obtain ⟨b1, hb1⟩ : ∃ b : Nat → Int, b = fun j => xs.getD j 0 := ⟨_, rfl⟩
  obtain ⟨b2, hb2⟩ : ∃ b : Nat → Int, b = fun j => ys.getD j 0 := ⟨_, rfl⟩
  replace hyes : n1 = n2 → (∀ j, j < n1 → b1 j = b2 j) → E = true := by rw [hb1, hb2]; exact hyes
  replace hno : ∀ j, b1 j ≠ b2 j → E = false := by rw [hb1, hb2]; exact hno
  replace hXc : 0 < n1 → ∃ g o, p1 = some ⟨g, o, none⟩ ∧ g < w.heap.size ∧ ∀ j, j < n1 → w.cell? ⟨g, o + j, none⟩ = some (.int .u8 (b1 j)) := by rw [hb1]; exact hXc
  replace hYc : 0 < n2 → ∃ g o, p2 = some ⟨g, o, none⟩ ∧ g < w.heap.size ∧ ∀ j, j < n2 → w.cell? ⟨g, o + j, none⟩ = some (.int .u8 (b2 j)) := by rw [hb2]; exact hYc
  clear hX hY h1 h2 hb1 hb2
  replace hyes := Lib.hid hyes
  replace hno := Lib.hid hno
  replace hne := Lib.hid hne
  replace hXc := Lib.hid hXc
  replace hYc := Lib.hid hYc
  go_enter Try.func18, Try.ntmps18
  by_cases hn : n1 = n2
  · subst hn
    go_wp2
    go_loopw [5] (fun i wr => ∃ m : Nat, m ≤ n1 ∧ i = .int .i64 m ∧ (∀ j, j < m → b1 j = b2 j) ∧ Below w.heap.size w wr) (fun i _ => (n1 - intOf i).toNat)
    case atStart => exact ⟨0, by omega, rfl, fun j h => absurd h (by omega), Below.refl _ _⟩
    case round =>
      obtain ⟨m, hm, hi, hI, hb⟩ := hrel
      subst hi
      by_cases hmn : m = n1
      · subst hmn
        have he := hyes.out (by trivial) hI
        replace he := Lib.hid he
        clear hm hI
        go_wp2
        go_returns
        exact ⟨by rw [he.out]; rfl, hb⟩
      · have hm' : (m : Int) < n1 := by omega
        have hm0 : (0 : Int) ≤ (m : Int) := by omega
        have hn0 : (n1 : Int) ≤ 1000000 := by omega
        obtain ⟨g1, o1, rfl, hg1, hB1⟩ := hXc.out (by omega)
        obtain ⟨g2, o2, rfl, hg2, hB2⟩ := hYc.out (by omega)
        have ca := (hb.cell (p := ⟨g1, o1 + m, none⟩) hg1).trans (hB1 m (by omega))
        have cb := (hb.cell (p := ⟨g2, o2 + m, none⟩) hg2).trans (hB2 m (by omega))
        have hm2 : m + 1 ≤ n1 := by omega
        clear hB1 hB2 hXc hYc
        have hIh := Lib.hid hI
        clear hI
        by_cases he : b1 m = b2 m
        · replace he := Lib.hid he
          go_wp2
          go_region
          rw [he.out]
          go_wp2
          refine ⟨⟨m + 1, hm2, rfl, fun j hj => ?_, hb.drew⟩, by simp [intOf]; omega⟩
          by_cases e : j = m
          · rw [e]; exact he.out
          · exact hIh.out j (by omega)
        · have he2 : (b1 m == b2 m) = false := by simpa using he
          have hf := Lib.hid (hno.out m he)
          go_wp2
          go_region
          simp only [he2, bne, Bool.not_false]
          go_wp2
          go_returns
          exact ⟨by rw [hf.out]; rfl, hb.drew⟩
  · have hn3 : ((n1 : Int) == (n2 : Int)) = false := by simp; omega
    have hf := Lib.hid (hne.out hn)
    go_wp2
    go_returns
    exact ⟨by rw [hf.out]; rfl, Below.refl _ _⟩
end Go.Proofs.Ytdgaoljobpneaaa
