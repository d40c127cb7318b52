/- Rows of bytes told; ApartBytes. -/
import Derived.Test.YtiimojhdpmkeoaaGreatBd
namespace Go.Proofs.YtiimojhdpmkeoaaGreat
open Go.RowKit
/-- rows told: values, blocks apart from B on -/
def Rws (B : Nat) (vs : List Value) (w : World) : Prop := ∃ (nl : Nat → Bool) (gr nr cr : Nat → Nat) (f : Nat → Nat → Int), (∀ k, k < vs.length → vs.getD k undef = rowV nl gr nr cr k ∧ (nl k = true → nr k = 0) ∧ nr k ≤ 100000 ∧ (nl k = false → B ≤ gr k ∧ RowB w (gr k) (nr k) (cr k) (f k))) ∧ ∀ j k, j < vs.length → k < vs.length → nl j = false → nl k = false → j ≠ k → gr j ≠ gr k
theorem Rws.below {B : Nat} {vs : List Value} {w w' : World} (h : Rws B vs w) (hb : Below w.heap.size w w') : Rws B vs w' := by
  obtain ⟨nl, gr, nr, cr, f, h1, h2⟩ := h
  exact ⟨nl, gr, nr, cr, f, fun k hk => ⟨(h1 k hk).1, (h1 k hk).2.1, (h1 k hk).2.2.1, fun hn => ⟨((h1 k hk).2.2.2 hn).1, ((h1 k hk).2.2.2 hn).2.below hb⟩⟩, h2⟩
theorem Rws.nil (B : Nat) (w : World) : Rws B [] w := ⟨fun _ => true, fun _ => 0, fun _ => 0, fun _ => 0, fun _ _ => 0, fun k hk => absurd hk (by simp), fun j k hj => absurd hj (by simp)⟩
def upB (f : Nat → Bool) (k : Nat) (v : Bool) (j : Nat) : Bool := if j = k then v else f j
theorem getD_snoc {vs : List Value} {v : Value} {k : Nat} (hk : k < vs.length) : (vs ++ [v]).getD k undef = vs.getD k undef := by simp [List.getD_eq_getElem?_getD, hk, List.getElem?_append_left]
theorem getD_last {vs : List Value} {v : Value} : (vs ++ [v]).getD vs.length undef = v := by simp [List.getD_eq_getElem?_getD]
/-- one row more: nil, or at a block that none of the others has -/
theorem Rws.snoc {B : Nat} {vs : List Value} {w : World} (h : Rws B vs w) {v : Value} (hv : v = .slice none 0 0 ∨ ∃ g n c f, v = .slice (some ⟨g, 0, none⟩) n c ∧ n ≤ 100000 ∧ B ≤ g ∧ RowB w g n c f ∧ ∀ k, k < vs.length → ∀ b, (vs.getD k undef).ownBlock = some b → b ≠ g) : Rws B (vs ++ [v]) w := by
  obtain ⟨nl, gr, nr, cr, f, h1, h2⟩ := h
  rcases hv with rfl | ⟨g, n, c, F, rfl, hn, hg, hR, hne⟩
  · refine ⟨upB nl vs.length true, gr, upn nr vs.length 0, cr, f, fun k hk => ?_, fun j k hj hk hnj hnk hjk => ?_⟩
    · by_cases e : k = vs.length
      · subst e
        rw [getD_last]
        have e1 : upB nl vs.length true vs.length = true := if_pos rfl
        exact ⟨(rowV_nil e1).symm, fun _ => upn_same _ _ _, by rw [upn_same]; omega, fun h => by rw [e1] at h; cases h⟩
      · have hk' : k < vs.length := by simp at hk; omega
        rw [getD_snoc hk']
        obtain ⟨a1, a2, a3, a4⟩ := h1 k hk'
        have e1 : upB nl vs.length true k = nl k := if_neg e
        rw [e1, upn_ne _ _ _ e]
        refine ⟨?_, a2, a3, a4⟩
        rw [a1]
        unfold rowV
        rw [e1, upn_ne _ _ _ e]
    · have ej : j ≠ vs.length := fun e => by subst e; rw [show upB nl vs.length true vs.length = true from if_pos rfl] at hnj; cases hnj
      have ek : k ≠ vs.length := fun e => by subst e; rw [show upB nl vs.length true vs.length = true from if_pos rfl] at hnk; cases hnk
      rw [show upB nl vs.length true j = nl j from if_neg ej] at hnj
      rw [show upB nl vs.length true k = nl k from if_neg ek] at hnk
      exact h2 j k (by simp at hj; omega) (by simp at hk; omega) hnj hnk hjk
  · have hblk : ∀ k, k < vs.length → nl k = false → gr k ≠ g := fun k hk hnl => hne k hk _ (by rw [(h1 k hk).1, rowV_at hnl]; rfl)
    refine ⟨upB nl vs.length false, upn gr vs.length g, upn nr vs.length n, upn cr vs.length c, fun k => if k = vs.length then F else f k, fun k hk => ?_, fun j k hj hk hnj hnk hjk => ?_⟩
    · by_cases e : k = vs.length
      · subst e
        rw [getD_last]
        have e1 : upB nl vs.length false vs.length = false := if_pos rfl
        refine ⟨?_, fun h => (by rw [e1] at h; cases h), (by rw [upn_same]; exact hn), fun _ => ?_⟩
        · rw [rowV_at e1, upn_same, upn_same, upn_same]
        · rw [upn_same, upn_same, upn_same]
          exact ⟨hg, (by show RowB w g n c (if vs.length = vs.length then F else f vs.length); rw [if_pos rfl]; exact hR)⟩
      · have hk' : k < vs.length := by simp at hk; omega
        rw [getD_snoc hk']
        obtain ⟨a1, a2, a3, a4⟩ := h1 k hk'
        have e1 : upB nl vs.length false k = nl k := if_neg e
        rw [e1, upn_ne _ _ _ e, upn_ne _ _ _ e, upn_ne _ _ _ e]
        refine ⟨?_, a2, a3, fun hn => ⟨(a4 hn).1, (by show RowB w (gr k) (nr k) (cr k) (if k = vs.length then F else f k); rw [if_neg e]; exact (a4 hn).2)⟩⟩
        rw [a1]
        unfold rowV
        rw [e1, upn_ne _ _ _ e, upn_ne _ _ _ e, upn_ne _ _ _ e]
    · by_cases ej : j = vs.length
      · subst ej
        rw [upn_same, upn_ne _ _ _ (fun e => hjk e.symm)]
        have hk' : k < vs.length := by simp at hk; omega
        rw [show upB nl vs.length false k = nl k from if_neg (fun e => hjk e.symm)] at hnk
        exact fun e => hblk k hk' hnk e.symm
      · have hj' : j < vs.length := by simp at hj; omega
        rw [show upB nl vs.length false j = nl j from if_neg ej] at hnj
        by_cases ek : k = vs.length
        · subst ek
          rw [upn_same, upn_ne _ _ _ ej]
          exact hblk j hj' hnj
        · rw [upn_ne _ _ _ ej, upn_ne _ _ _ ek]
          rw [show upB nl vs.length false k = nl k from if_neg ek] at hnk
          exact h2 j k hj' (by simp at hk; omega) hnj hnk hjk
theorem Rws.blk {B : Nat} {vs : List Value} {w : World} (h : Rws B vs w) {k : Nat} (hk : k < vs.length) {b : Nat} (hb : (vs.getD k undef).ownBlock = some b) : B ≤ b ∧ b < w.heap.size := by
  obtain ⟨nl, gr, nr, cr, f, h1, h2⟩ := h
  obtain ⟨a1, _, _, a4⟩ := h1 k hk
  cases hn : nl k
  · rw [a1, rowV_at hn] at hb
    obtain rfl : gr k = b := Option.some.inj hb
    exact ⟨(a4 hn).1, (a4 hn).2.lt⟩
  · rw [a1, rowV_nil hn] at hb
    cases hb
theorem rws_row {B : Nat} {vs : List Value} {w : World} (h : Rws B vs w) {k : Nat} (hk : k < vs.length) : ∃ p n c, vs.getD k undef = .slice p n c := by
  obtain ⟨nl, gr, nr, cr, f, h1, h2⟩ := h
  cases hn : nl k
  · exact ⟨_, _, _, by rw [(h1 k hk).1, rowV_at hn]⟩
  · exact ⟨_, _, _, by rw [(h1 k hk).1, rowV_nil hn]⟩
set_option maxRecDepth 20000 in
set_option maxHeartbeats 4000000 in
theorem apartBytes_c (B A CA K : Nat) (vs : List Value) (hK0 : 0 < K) (hK : K ≤ 400) (hl : vs.length = K) (w : World) (hP : RowQ w A CA vs) (hR : Rws B vs w) (hBw : B ≤ w.heap.size) :
    Calls Tryz.prog 17 #[.slice (some ⟨A, 0, none⟩) K CA] w fun e w' => e = .returned (.bool true) ∧ Below B w w' := by
  have hfin : ∀ wr, BagT w.heap.size vs wr → Below w.heap.size w wr → Calls Tryz.prog 34 #[.pointer (some ⟨w.heap.size, 0, none⟩)] wr fun e w' => e = .returned (.bool true) ∧ Below B wr w' := fun wr hS hb => by
    obtain ⟨v, hV, hB⟩ := hS
    rcases hV with ⟨_, h⟩ | ⟨L, C, rfl, hL, hRP⟩
    · rw [h] at hl; simp at hl; omega
    · obtain ⟨nl, gr, nr, cr, f, h1, h2⟩ := hR
      rw [hl] at h1 h2 hB
      have hlt : ∀ k, k < K → nl k = false → gr k < w.heap.size := fun k hk hn => ((h1 k hk).2.2.2 hn).2.lt
      exact apartB_c B w.heap.size L C K nl gr nr cr f vs wr hB hl hRP (fun k hk => (h1 k hk).1) (fun k hk hn => ((h1 k hk).2.2.2 hn).2.below hb) ⟨h2, fun k hk hn => by have := hlt k hk hn; omega, fun k hk hn => ((h1 k hk).2.2.2 hn).1, fun k hk => (h1 k hk).2.2.1, fun k hk => (h1 k hk).2.1, hK⟩ (fun k hk hn => by have := hlt k hk hn; omega) hBw
  have hrow : ∀ wr, Below w.heap.size w wr → ∀ k, k < K → ∃ p n c, vs.getD k undef = .slice p n c ∧ wr.cell? ⟨A, k, none⟩ = some (.slice p n c) := fun wr hb k hk => by
    obtain ⟨p, n, c, e⟩ := rws_row hR (k := k) (by omega)
    exact ⟨p, n, c, e, ((hP.below hb).cells k (by omega)).trans (by rw [e])⟩
  have hS0 : BagT w.heap.size (vs.take 0) (w.alloc (.cells (bagB (.slice none 0 0)) 74)) := ⟨_, .inl ⟨rfl, rfl⟩, Blk.new _ _ _⟩
  have hb0 : Below w.heap.size w (w.alloc (.cells (bagB (.slice none 0 0)) 74)) := (Below.refl _ _).alloc (Nat.le_refl _) _
  have htk : ∀ k, k < K → ∀ p n c, vs.getD k undef = .slice p n c → vs.take k ++ [.slice p n c] = vs.take (k + 1) := fun k hk p n c e => by
    rw [List.take_add_one, ← e]
    have : k < vs.length := by omega
    simp [List.getD_eq_getElem?_getD, this]
  have hlast : vs.take K = vs := List.take_of_length_le (by omega)
  have hK1 : (K : Int) ≤ 400 := by omega
  replace hfin := Lib.hid hfin
  replace hrow := Lib.hid hrow
  replace hS0 := Lib.hid hS0
  replace htk := Lib.hid htk
  replace hlast := Lib.hid hlast
  replace hl := Lib.hid hl
  clear hP hR
  go_enter Tryz.func17, Tryz.ntmps17
  go_wp2
  go_loopw [4] (fun i wr => ∃ k : Nat, k ≤ K ∧ i = .int .i64 k ∧ BagT w.heap.size (vs.take k) wr ∧ Below w.heap.size w wr) (fun i _ => (K - intOf i).toNat)
  case atStart => exact ⟨0, Nat.zero_le _, rfl, hS0.out, hb0⟩
  case round =>
    clear hS0 hb0
    obtain ⟨k, hk, hi, hS, hb⟩ := hrel
    subst hi
    by_cases he : k = K
    · subst he
      rw [hlast.out] at hS
      have hap := Lib.hid (hfin.out wr hS hb)
      clear hS hk hfin
      go_wp2_with fail
      refine hap.out.mono ?_
      rintro e w2 ⟨rfl, hb2⟩
      have hb9 : Below B w w2 := (hb.mono hBw).trans hb2
      clear hap
      go_wp2
      go_returns
      exact ⟨rfl, hb9⟩
    · have hk0 : (0 : Int) ≤ (k : Int) := by omega
      have hk1 : (k : Int) < (K : Int) := by omega
      have hk2 : k < K := by omega
      obtain ⟨p, n, c, e, c0⟩ := hrow.out wr hb k hk2
      have hput := putBytes_c w.heap.size p n c (vs.take k) (by rw [List.length_take]; omega) wr hS
      rw [htk.out k hk2 p n c e] at hput
      replace hput := Lib.hid hput
      clear hS e hk he
      go_wp2_with fail
      refine hput.out.mono ?_
      rintro e w2 ⟨⟨v, rfl⟩, hS2, hb2⟩
      have hb3 := hb.trans hb2
      replace hS2 := Lib.hid hS2
      clear hput c0
      go_wp2
      exact ⟨⟨k + 1, by omega, by rw [Int.natCast_add]; rfl, hS2.out, hb3⟩, by simp [intOf]; omega⟩
end Go.Proofs.YtiimojhdpmkeoaaGreat
