/- Plain: what the law RecordTells needs of numbers and rows. -/
import Derived.Test.YtiimojhdpmkeoaaGreatBh
import Derived.Test.YtiimojhdpmkeoaaGreatKr
import Derived.Test.YtiimojhdpmkeoaaGreatPt
import Derived.Test.YtiimojhdpmkeoaaGreatRo
import Derived.Test.YtiimojhdpmkeoaaGreatJh
import Derived.Test.YtiimojhdpmkeoaaGreatJu
namespace Go.Proofs.YtiimojhdpmkeoaaGreat
open Go.RowKit
theorem great_no {K n1 n2 n3 : Nat} (h : greatB K n1 n2 n3 = false) : K ≤ 300 ∧ n1 ≤ 50 ∧ n2 ≤ 2000 ∧ n3 ≤ 300 := by
  unfold greatB at h
  simp only [Bool.or_eq_false_iff, decide_eq_false_iff_not] at h
  omega
theorem txt_le {k : ByteArray} {cl sq : Int} {n1 : Nat} {ds : List Int} {gone : Bool} {vs : List Int} (hk : k.size ≤ 300) (hn : n1 ≤ 50) (hv : vs.length ≤ 2000) : (txtL k cl sq n1 ds gone vs).length ≤ 50000 := by
  unfold txtL
  split
  · unfold textL
    rw [List.flatten_append, List.length_append, qL_flat]
    simp only [List.flatten_cons, List.flatten_nil, List.append_nil, List.length_append, List.length_cons, List.length_nil, lenL, numL_len]
    omega
  · simp
theorem put_le {k : ByteArray} {cl sq : Int} {n1 : Nat} {ds : List Int} {gone : Bool} {vs ss : List Int} (hk : k.size ≤ 300) (hn : n1 ≤ 50) (hv : vs.length ≤ 2000) (hs : ss.length ≤ 300) : (putL k cl sq n1 ds gone vs ss).length ≤ 100000 := by
  have := txt_le (k := k) (cl := cl) (sq := sq) (n1 := n1) (ds := ds) (gone := gone) (vs := vs) hk hn hv
  unfold putL
  split
  · rw [List.length_append]; omega
  · simp
theorem over_eq (k : ByteArray) (cl sq : Int) (n1 : Nat) (ds : List Int) (gone : Bool) (n2 : Nat) (kb : ByteArray) (clb sqb : Int) (nb1 : Nat) (dsb : List Int) (goneb : Bool) (nb2 : Nat) : overR k cl sq n1 ds gone n2 kb clb sqb nb1 dsb goneb nb2 = overB k cl sq n1 ds gone n2 kb clb sqb nb1 dsb goneb nb2 := by
  unfold overR overB
  cases decide (k.toList = kb.toList) <;> cases shB k.size cl sq n1 ds gone n2 <;> cases shB kb.size clb sqb nb1 dsb goneb nb2 <;> simp
theorem bL_cB (xs : List Int) : bL xs = cB xs.length (fun j => xs.getD j 0) := by
  apply List.ext_getElem?
  intro j
  by_cases hj : j < xs.length
  · rw [cB_get _ _ j hj]
    simp [bL, hj]
  · rw [List.getElem?_eq_none (by rw [bL_len]; omega), List.getElem?_eq_none (by rw [cB_len]; omega)]
/-- a row of bytes: nil, or at a block from base on -/
def RowyB (base : Nat) (w : World) (v : Value) : Prop := v = .slice none 0 0 ∨ ∃ g n c f, v = .slice (some ⟨g, 0, none⟩) n c ∧ n ≤ 100000 ∧ base ≤ g ∧ RowB w g n c f
theorem rowyB_own {base : Nat} {w : World} {v : Value} {n : Nat} {xs : List Int} (h : w.ownsRow base 5 1 v n (bL xs)) (hn : xs.length ≤ 100000) : RowyB base w v := by
  have hl : xs.length = n := by have := h.1; rw [bL_len] at this; omega
  rcases h.2 with ⟨hv, _⟩ | ⟨g, cap, cur, rfl, hg, _⟩
  · exact .inl hv
  · rw [bL_cB, hl] at h
    exact .inr ⟨g, n, cap, _, rfl, by omega, hg, rowB_of h⟩
theorem RowyB.blk {base : Nat} {w : World} {v : Value} (h : RowyB base w v) {b : Nat} (hb : v.ownBlock = some b) : base ≤ b ∧ b < w.heap.size := by
  rcases h with rfl | ⟨g, n, c, f, rfl, h2, h3, h4⟩
  · cases hb
  · obtain rfl : g = b := Option.some.inj hb
    exact ⟨h3, h4.lt⟩
theorem Rws.snoc2 {B base : Nat} {vs : List Value} {w : World} (h : Rws B vs w) {v : Value} (hv : RowyB base w v) (hB : B ≤ base) (hne : ∀ k, k < vs.length → ∀ b b2, (vs.getD k undef).ownBlock = some b → v.ownBlock = some b2 → b ≠ b2) : Rws B (vs ++ [v]) w := by
  refine h.snoc ?_
  rcases hv with rfl | ⟨g, n, c, f, rfl, h2, h3, h4⟩
  · exact .inl rfl
  · exact .inr ⟨g, n, c, f, rfl, h2, Nat.le_trans hB h3, h4, fun k hk b hb => hne k hk b g hb rfl⟩
theorem ne_snoc {vs : List Value} {v u : Value} (h : ∀ k, k < vs.length → ∀ b b2, (vs.getD k undef).ownBlock = some b → u.ownBlock = some b2 → b ≠ b2) (h2 : ∀ b b2, v.ownBlock = some b → u.ownBlock = some b2 → b ≠ b2) : ∀ k, k < (vs ++ [v]).length → ∀ b b2, ((vs ++ [v]).getD k undef).ownBlock = some b → u.ownBlock = some b2 → b ≠ b2 := fun k hk b b2 hb hb2 => by
  by_cases e : k < vs.length
  · rw [getD_snoc e] at hb; exact h k e b b2 hb hb2
  · have : k = vs.length := by simp at hk; omega
    subst this
    rw [getD_last] at hb
    exact h2 b b2 hb hb2
theorem ne_nil {u : Value} : ∀ k, k < ([] : List Value).length → ∀ b b2, (([] : List Value).getD k undef).ownBlock = some b → u.ownBlock = some b2 → b ≠ b2 := fun k hk => absurd hk (by simp)
/-- three rows, told one after the other -/
theorem rws3 {B b1 b2 b3 : Nat} {w : World} {v1 v2 v3 : Value} (h1 : RowyB b1 w v1) (h2 : RowyB b2 w v2) (h3 : RowyB b3 w v3) (hB : B ≤ b1) (h12 : b1 ≤ b2) (h23 : b2 ≤ b3) (l1 : ∀ b, v1.ownBlock = some b → b < b2) (l2 : ∀ b, v2.ownBlock = some b → b < b3) : Rws B [v1, v2, v3] w := by
  have e1 := (Rws.nil B w).snoc2 h1 hB ne_nil
  have e2 := e1.snoc2 h2 (by omega) (ne_snoc ne_nil (fun b c hb hc => by have := l1 b hb; have := (h2.blk hc).1; omega))
  exact e2.snoc2 h3 (by omega) (ne_snoc (ne_snoc ne_nil (fun b c hb hc => by have := l1 b hb; have := (h3.blk hc).1; omega)) (fun b c hb hc => by have := l2 b hb; have := (h3.blk hc).1; omega))
theorem own_lt {w : World} {base n : Nat} {v : Value} {t : TypeId} {s : Nat} {l : List Value} (h : w.ownsRow base t s v n l) : ∀ b, v.ownBlock = some b → b < w.heap.size := fun b hb => by
  rcases h.2 with ⟨rfl, _⟩ | ⟨g, cap, cur, rfl, hg, h2, _⟩
  · cases hb
  · obtain rfl : g = b := Option.some.inj hb
    exact (Array.getElem?_eq_some_iff.1 h2).1
/-- a record is lent: marks behind each of its rows -/
def LrP (k : ByteArray) (cl sq : Int) (n1 : Nat) (gone : Bool) (ds vs ss : List Int) : Value → World → Prop := fun v w => ∃ g1 d1 g2 d2 g3 d3, v = .agg #[.string k, .int .i64 cl, .int .i64 sq, .slice (some ⟨g1, 0, none⟩) n1 d1, .bool gone, .slice (some ⟨g2, 0, none⟩) vs.length d2, .slice (some ⟨g3, 0, none⟩) ss.length d3] ∧ n1 + 12 ≤ d1 ∧ vs.length + 12 ≤ d2 ∧ ss.length + 12 ≤ d3 ∧ DotsL w (some ⟨g1, 0, none⟩) (n1 + 12) (ds ++ marksL 12) ∧ BytesL w (some ⟨g2, 0, none⟩) (vs ++ marksB 12) ∧ BytesL w (some ⟨g3, 0, none⟩) (ss ++ marksB 12)
theorem sta_lrP (k : ByteArray) (cl sq : Int) (n1 : Nat) (gone : Bool) (ds vs ss : List Int) : Sta (LrP k cl sq n1 gone ds vs ss) := fun _ _ _ ⟨g1, d1, g2, d2, g3, d3, h1, k1, k2, k3, h2, h3, h4⟩ hb => ⟨g1, d1, g2, d2, g3, d3, h1, k1, k2, k3, h2.below hb, h3.below hb, h4.below hb⟩
def Z7 : Array Value := #[.string ⟨#[]⟩, .int .i64 0, .int .i64 0, .slice none 0 0, .bool false, .slice none 0 0, .slice none 0 0]
theorem row_ne {w : World} {g q m : Nat} {t : TypeId} {k : IntKind} {f : Nat → Int} (hb : Blk w g t #[.string ⟨#[]⟩, .int .i64 0, .int .i64 0, .slice none 0 0, .bool false, .slice none 0 0, .slice none 0 0]) (h : RowAt w (some ⟨q, 0, none⟩) m (fun j => .int k (f j))) (hm : 0 < m) : q ≠ g := fun e => by
  obtain ⟨g', o, e2, _, hc⟩ := h hm
  have h0 := hc 0 hm
  injection e2 with e2
  simp only [Addr.mk.injEq, and_true] at e2
  obtain ⟨rfl, rfl⟩ := e2
  subst e
  rw [hb.cell] at h0
  simp at h0
theorem lentD_ne {w : World} {g q n : Nat} {t : TypeId} {ds : List Int} (hb : Blk w g t #[.string ⟨#[]⟩, .int .i64 0, .int .i64 0, .slice none 0 0, .bool false, .slice none 0 0, .slice none 0 0]) (h : DotsL w (some ⟨q, 0, none⟩) (n + 12) ds) : ∀ ad, (some ⟨q, 0, none⟩ : Option Addr) = some ad → some ad.block ≠ some g := fun ad e hh => by
  injection e with e
  subst e
  injection hh with hh
  exact row_ne hb h.2 (by omega) hh
theorem lentB_ne {w : World} {g q : Nat} {t : TypeId} {xs : List Int} (hb : Blk w g t #[.string ⟨#[]⟩, .int .i64 0, .int .i64 0, .slice none 0 0, .bool false, .slice none 0 0, .slice none 0 0]) (h : BytesL w (some ⟨q, 0, none⟩) (xs ++ marksB 12)) : ∀ ad, (some ⟨q, 0, none⟩ : Option Addr) = some ad → some ad.block ≠ some g := fun ad e hh => by
  injection e with e
  subst e
  injection hh with hh
  exact row_ne hb h (by rw [List.length_append, marksB_len]; omega) hh
theorem rowQ_blk {w : World} {g : Nat} {a b c : Value} (h : Blk w g 23 #[a, b, c]) : RowQ w g 3 [a, b, c] := ⟨_, h, Nat.le_refl _, by unfold maxLen; omega, rfl, rfl⟩
end Go.Proofs.YtiimojhdpmkeoaaGreat
