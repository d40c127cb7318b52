/- The walk of the law RecordApart. -/
import Derived.Test.YtcppaejfdjfaoaaJh
import Derived.Test.YtcppaejfdjfaoaaJi
import Derived.Test.YtcppaejfdjfaoaaJp
import Derived.Test.YtcppaejfdjfaoaaJu
namespace Go.Proofs.Ytcppaejfdjfaoaa
open Go.RowKit
theorem great_no {K n1 n2 n3 : Nat} (h : greatB K n1 n2 n3 = false) : K ≤ 300 ∧ n1 ≤ 50 ∧ n2 ≤ 2000 ∧ n3 ≤ 300 := by
  unfold greatB at h
  simp only [Bool.or_eq_false_iff, decide_eq_false_iff_not] at h
  omega
theorem over_self (k : ByteArray) (cl sq : Int) (n1 : Nat) (ds : List Int) (gone : Bool) (n2 : Nat) : overB k cl sq n1 ds gone n2 k cl sq n1 ds gone n2 = false := by
  unfold overB
  cases h : shB k.size cl sq n1 ds gone n2
  · simp
  · have := (shB_true h).2.2.2.1
    rw [this]
    simp
theorem txt_zero {k : ByteArray} {cl sq : Int} {n1 : Nat} {ds : List Int} {gone : Bool} {vs : List Int} (h : (txtL k cl sq n1 ds gone vs).length = 0) : shB k.size cl sq n1 ds gone vs.length = false := by
  cases hs : shB k.size cl sq n1 ds gone vs.length
  · rfl
  · unfold txtL at h
    rw [hs, if_pos rfl] at h
    exact absurd h (text_pos k cl sq n1 ds gone vs)
theorem txt_some {k : ByteArray} {cl sq : Int} {n1 : Nat} {ds : List Int} {gone : Bool} {vs : List Int} (h : (txtL k cl sq n1 ds gone vs).length ≠ 0) : shB k.size cl sq n1 ds gone vs.length = true ∧ txtL k cl sq n1 ds gone vs = textL k cl sq n1 ds gone vs := by
  unfold txtL at h ⊢
  cases hs : shB k.size cl sq n1 ds gone vs.length
  · rw [hs] at h; exact absurd rfl h
  · exact ⟨rfl, rfl⟩
theorem over_zero1 {k kb : ByteArray} {cl sq clb sqb : Int} {n1 nb1 : Nat} {ds dsb : List Int} {gone goneb : Bool} {vs vsb : List Int} (h : (txtL k cl sq n1 ds gone vs).length = 0) : overB k cl sq n1 ds gone vs.length kb clb sqb nb1 dsb goneb vsb.length = false ∧ overB kb clb sqb nb1 dsb goneb vsb.length k cl sq n1 ds gone vs.length = false := by
  unfold overB
  rw [txt_zero h]
  simp
theorem over_zero2 {k kb : ByteArray} {cl sq clb sqb : Int} {n1 nb1 : Nat} {ds dsb : List Int} {gone goneb : Bool} {vs vsb : List Int} (h : (txtL kb clb sqb nb1 dsb goneb vsb).length = 0) : overB k cl sq n1 ds gone vs.length kb clb sqb nb1 dsb goneb vsb.length = false ∧ overB kb clb sqb nb1 dsb goneb vsb.length k cl sq n1 ds gone vs.length = false := by
  unfold overB
  rw [txt_zero h]
  simp
theorem txt_le {k : ByteArray} {cl sq : Int} {n1 : Nat} {ds : List Int} {gone : Bool} {vs : List Int} (hk : k.size ≤ 300) (hn : n1 ≤ 50) (hv : vs.length ≤ 2000) : (txtL k cl sq n1 ds gone vs).length ≤ 1000000 := by
  unfold txtL
  split
  · rw [textL_eq]
    simp only [List.length_append, numL_len, keyL_len, dtL_len, lenL, List.length_cons, List.length_nil]
    omega
  · simp
theorem apart_eq {k kb : ByteArray} {cl sq clb sqb : Int} {n1 nb1 : Nat} {ds dsb : List Int} {gone goneb : Bool} {vs vsb : List Int} (hl : ds.length = 2 * n1) (hlb : dsb.length = 2 * nb1) (hn : n1 ≤ 400000) (hnb : nb1 ≤ 400000) (h1 : (txtL k cl sq n1 ds gone vs).length ≠ 0) (h2 : (txtL kb clb sqb nb1 dsb goneb vsb).length ≠ 0) :
    (eqL (txtL k cl sq n1 ds gone vs) (txtL kb clb sqb nb1 dsb goneb vsb) == sameR k cl sq ds gone vs [] kb clb sqb dsb goneb vsb []) = true := by
  obtain ⟨s1, e1⟩ := txt_some h1
  obtain ⟨s2, e2⟩ := txt_some h2
  rw [e1, e2]
  have hi := text_inj hl hlb hn hnb s1 s2
  have hs : sameR k cl sq ds gone vs [] kb clb sqb dsb goneb vsb [] = decide (k.toList = kb.toList ∧ cl = clb ∧ sq = sqb ∧ ds = dsb ∧ gone = goneb ∧ vs = vsb) := by
    unfold sameR eqL
    simp only [Bool.decide_and, decide_true, Bool.and_true]
    cases gone <;> cases goneb <;> simp
  rw [hs]
  unfold eqL
  rw [decide_eq_decide.2 hi]
  exact beq_self_eq_true _
theorem txt_first {k : ByteArray} {cl sq : Int} {n1 : Nat} {ds : List Int} {gone : Bool} {vs : List Int} (h : (txtL k cl sq n1 ds gone vs).length ≠ 0) (hn : 0 < n1) : dD ds 0 ≠ 0 := by
  have h1 := of_decide_eq_true ((shB_true (txt_some h).1).2.2.1 0 hn).1
  have h2 : dD ds (0 * 2) = dD ds 0 := rfl
  rw [h2] at h1
  omega
/-- a record of these parts lies there -/
def RecP (k : ByteArray) (cl sq : Int) (n1 : Nat) (gone : Bool) (ds vs ss : List Int) : Value → World → Prop := fun v w => ∃ q1 d1 q2 d2 q3 d3, v = .agg #[.string k, .int .i64 cl, .int .i64 sq, .slice q1 n1 d1, .bool gone, .slice q2 vs.length d2, .slice q3 ss.length d3] ∧ DotsL w q1 n1 ds ∧ BytesL w q2 vs ∧ BytesL w q3 ss
theorem sta_recP (k : ByteArray) (cl sq : Int) (n1 : Nat) (gone : Bool) (ds vs ss : List Int) : Sta (RecP k cl sq n1 gone ds vs ss) := fun _ _ _ ⟨q1, d1, q2, d2, q3, d3, h1, h2, h3, h4⟩ hb => ⟨q1, d1, q2, d2, q3, d3, h1, h2.below hb, h3.below hb, h4.below hb⟩
theorem RowAt.grown' {w w' : World} {p : Option Addr} {m : Nat} {f : Nat → Value} {row : Option Nat} (h : RowAt w p m f) (hg : w.grownBy w' row) (hne : 0 < m → ∀ ad, p = some ad → some ad.block ≠ row) : RowAt w' p m f := fun hm => by
  obtain ⟨g, o, e, hlt, hc⟩ := h hm
  exact ⟨g, o, e, Nat.lt_of_lt_of_le hlt hg.size, fun j hj => (hg.cell_far ⟨g, o + j, none⟩ hlt (by have := hne hm _ e; exact this)).trans (hc j hj)⟩
theorem BytesL.grown' {w w' : World} {p : Option Addr} {xs : List Int} {row : Option Nat} (h : BytesL w p xs) (hg : w.grownBy w' row) (hne : 0 < xs.length → ∀ ad, p = some ad → some ad.block ≠ row) : BytesL w' p xs := RowAt.grown' h hg hne
theorem DotsL.grown' {w w' : World} {p : Option Addr} {n : Nat} {ds : List Int} {row : Option Nat} (h : DotsL w p n ds) (hg : w.grownBy w' row) (hne : 0 < n → ∀ ad, p = some ad → some ad.block ≠ row) : DotsL w' p n ds := ⟨h.1, RowAt.grown' h.2 hg (fun hm => hne (by omega))⟩
theorem bytes_ne {w : World} {g : Nat} {t : TypeId} {q : Option Addr} {xs : List Int} (hb : Blk w g t #[.string ⟨#[]⟩, .int .i64 0, .int .i64 0, .slice none 0 0, .bool false, .slice none 0 0, .slice none 0 0]) (h : BytesL w q xs) : 0 < xs.length → ∀ ad, q = some ad → some ad.block ≠ some g := fun hm ad e hh => by
  obtain ⟨g', o, e2, _, hc⟩ := h hm
  have h0 := hc 0 hm
  rw [e2] at e
  injection e with e
  injection hh with hh
  rw [← e] at hh
  simp only at hh
  subst hh
  rw [hb.cell] at h0
  match o, h0 with
  | 0, h0 | 1, h0 | 2, h0 | 3, h0 | 4, h0 | 5, h0 | 6, h0 => simp at h0
  | o + 7, h0 => simp at h0
theorem dots_ne {w : World} {g : Nat} {t : TypeId} {q : Option Addr} {n : Nat} {ds : List Int} (hb : Blk w g t #[.string ⟨#[]⟩, .int .i64 0, .int .i64 0, .slice none 0 0, .bool false, .slice none 0 0, .slice none 0 0]) (h : DotsL w q n ds) (hz : 0 < n → dD ds 0 ≠ 0) : 0 < n → ∀ ad, q = some ad → some ad.block ≠ some g := fun hm ad e hh => by
  obtain ⟨g', o, e2, _, hc⟩ := h.2 (by omega)
  have h0 : w.cell? ⟨g', o + 0, none⟩ = some (.int .i64 (dD ds 0)) := hc 0 (by omega)
  have hz' := hz hm
  rw [e2] at e
  injection e with e
  injection hh with hh
  rw [← e] at hh
  simp only at hh
  subst hh
  rw [hb.cell] at h0
  match o, h0 with
  | 0, h0 | 3, h0 | 4, h0 | 5, h0 | 6, h0 => simp at h0
  | 1, h0 | 2, h0 => simp at h0; exact hz' h0.symm
  | o + 7, h0 => simp at h0
def ra10L (k : ByteArray) (cl : Int) (sq : Int) (p1 : Option Addr) (n1 : Nat) (c1 : Nat) (gone : Bool) (p2 : Option Addr) (n2 : Nat) (c2 : Nat) (p3 : Option Addr) (n3 : Nat) (c3 : Nat) (kb : ByteArray) (clb : Int) (sqb : Int) (pb1 : Option Addr) (nb1 : Nat) (cb1 : Nat) (goneb : Bool) (pb2 : Option Addr) (nb2 : Nat) (cb2 : Nat) (pb3 : Option Addr) (nb3 : Nat) (cb3 : Nat) (ds : List Int) (vs : List Int) (ss : List Int) (dsb : List Int) (vsb : List Int) (ssb : List Int) (B0 : Nat) : List (Value → World → Prop) := [
  Eq1 (.agg #[.string k, .int .i64 cl, .int .i64 sq, .slice p1 n1 c1, .bool gone, .slice p2 n2 c2, .slice p3 n3 c3]),
  RecP k cl sq n1 gone ds vs ss,
  Eq1 (.agg #[.string kb, .int .i64 clb, .int .i64 sqb, .slice pb1 nb1 cb1, .bool goneb, .slice pb2 nb2 cb2, .slice pb3 nb3 cb3]),
  RecP kb clb sqb nb1 goneb dsb vsb ssb,
  NewB B0 25 #[.string ⟨#[]⟩, .int .i64 0, .int .i64 0, .slice none 0 0, .bool false, .slice none 0 0, .slice none 0 0],
  NewB B0 25 #[.string ⟨#[]⟩, .int .i64 0, .int .i64 0, .slice none 0 0, .bool false, .slice none 0 0, .slice none 0 0]]
theorem ra10S (k : ByteArray) (cl : Int) (sq : Int) (p1 : Option Addr) (n1 : Nat) (c1 : Nat) (gone : Bool) (p2 : Option Addr) (n2 : Nat) (c2 : Nat) (p3 : Option Addr) (n3 : Nat) (c3 : Nat) (kb : ByteArray) (clb : Int) (sqb : Int) (pb1 : Option Addr) (nb1 : Nat) (cb1 : Nat) (goneb : Bool) (pb2 : Option Addr) (nb2 : Nat) (cb2 : Nat) (pb3 : Option Addr) (nb3 : Nat) (cb3 : Nat) (ds : List Int) (vs : List Int) (ss : List Int) (dsb : List Int) (vsb : List Int) (ssb : List Int) (B0 : Nat) : ∀ j x' q q', (ra10L k cl sq p1 n1 c1 gone p2 n2 c2 p3 n3 c3 kb clb sqb pb1 nb1 cb1 goneb pb2 nb2 cb2 pb3 nb3 cb3 ds vs ss dsb vsb ssb B0).getD j (fun _ _ => True) x' q → Below q.heap.size q q' → (ra10L k cl sq p1 n1 c1 gone p2 n2 c2 p3 n3 c3 kb clb sqb pb1 nb1 cb1 goneb pb2 nb2 cb2 pb3 nb3 cb3 ds vs ss dsb vsb ssb B0).getD j (fun _ _ => True) x' q' := by
  refine sta_all _ ?_
  simp only [ra10L, List.mem_cons, forall_eq_or_imp, List.not_mem_nil, false_implies, implies_true, and_true]
  exact ⟨sta_eq _, sta_recP _ _ _ _ _ _ _ _, sta_eq _, sta_recP _ _ _ _ _ _ _ _, sta_new _ _ _, sta_new _ _ _⟩
theorem ra10O (k : ByteArray) (cl : Int) (sq : Int) (p1 : Option Addr) (n1 : Nat) (c1 : Nat) (gone : Bool) (p2 : Option Addr) (n2 : Nat) (c2 : Nat) (p3 : Option Addr) (n3 : Nat) (c3 : Nat) (kb : ByteArray) (clb : Int) (sqb : Int) (pb1 : Option Addr) (nb1 : Nat) (cb1 : Nat) (goneb : Bool) (pb2 : Option Addr) (nb2 : Nat) (cb2 : Nat) (pb3 : Option Addr) (nb3 : Nat) (cb3 : Nat) (ds : List Int) (vs : List Int) (ss : List Int) (dsb : List Int) (vsb : List Int) (ssb : List Int) (B0 : Nat) : ∀ j x' q, (fun j => j == 4 || j == 5) j = true → (ra10L k cl sq p1 n1 c1 gone p2 n2 c2 p3 n3 c3 kb clb sqb pb1 nb1 cb1 goneb pb2 nb2 cb2 pb3 nb3 cb3 ds vs ss dsb vsb ssb B0).getD j (fun _ _ => True) x' q → ∀ g, x' = .pointer (some ⟨g, 0, none⟩) → g < q.heap.size := by
  intro j x' q hj hv g e
  have hj' : j = 4 ∨ j = 5 := by simpa using hj
  rcases hj' with rfl | rfl
  all_goals exact new_lt hv e
set_option maxRecDepth 20000 in
set_option maxHeartbeats 20000000 in
theorem recordApart_c (k : ByteArray) (cl sq : Int) (p1 : Option Addr) (n1 c1 : Nat) (gone : Bool) (p2 : Option Addr) (n2 c2 : Nat) (p3 : Option Addr) (n3 c3 : Nat) (kb : ByteArray) (clb sqb : Int) (pb1 : Option Addr) (nb1 cb1 : Nat) (goneb : Bool) (pb2 : Option Addr) (nb2 cb2 : Nat) (pb3 : Option Addr) (nb3 cb3 : Nat) (ds vs ss dsb vsb ssb : List Int) (hn2 : n2 = vs.length) (hn3 : n3 = ss.length) (hnb2 : nb2 = vsb.length) (hnb3 : nb3 = ssb.length) (w : World) (hD : DotsL w p1 n1 ds) (hV : BytesL w p2 vs) (hS : BytesL w p3 ss) (hDb : DotsL w pb1 nb1 dsb) (hVb : BytesL w pb2 vsb) (hSb : BytesL w pb3 ssb) :
    Calls Try.prog 3 #[.agg #[.string k, .int .i64 cl, .int .i64 sq, .slice p1 n1 c1, .bool gone, .slice p2 n2 c2, .slice p3 n3 c3], .agg #[.string kb, .int .i64 clb, .int .i64 sqb, .slice pb1 nb1 cb1, .bool goneb, .slice pb2 nb2 cb2, .slice pb3 nb3 cb3]] w fun e w' => e = .returned (.bool true) ∧ Below w.heap.size w w' := by
  replace hn2 := Lib.hid hn2
  replace hn3 := Lib.hid hn3
  replace hnb2 := Lib.hid hnb2
  replace hnb3 := Lib.hid hnb3
  go_enter Try.func3, Try.ntmps3
  go_wp2_with fail
  refine calls_at (fun W0 hW => ?_)
  have hA : Blk W0 w.heap.size 25 #[.string k, .int .i64 cl, .int .i64 sq, .slice p1 n1 c1, .bool gone, .slice p2 n2 c2, .slice p3 n3 c3] := by rw [hW]; exact (Blk.new _ _ _).alloc _
  have hB : Blk W0 (w.heap.size + 1) 25 #[.string kb, .int .i64 clb, .int .i64 sqb, .slice pb1 nb1 cb1, .bool goneb, .slice pb2 nb2 cb2, .slice pb3 nb3 cb3] := by rw [hW]; exact blk_at (by simp) (Blk.new _ _ _)
  have hb0 : Below w.heap.size w W0 := by rw [hW]; go_grown
  clear hW
  obtain ⟨GA, hGA⟩ : ∃ GA, GA = w.heap.size := ⟨_, rfl⟩
  obtain ⟨GB, hGB⟩ : ∃ GB, GB = w.heap.size + 1 := ⟨_, rfl⟩
  rw [← hGB] at hB ⊢
  rw [← hGA] at hA ⊢
  have hAB : GA < GB := by omega
  have hGw : w.heap.size ≤ GA := by omega
  clear hGA hGB
  refine (awake_c _).mono ?_
  rintro e w1 ⟨rfl, hb⟩
  replace hA := hA.below hb
  replace hB := hB.below hb
  replace hb0 := hb0.trans (hb.mono hb0.size)
  clear hb
  obtain ⟨y0, y1, y2, y3, y4, y5, y6⟩ := blk7 hA
  obtain ⟨z0, z1, z2, z3, z4, z5, z6⟩ := blk7 hB
  go_wp2_with fail
  clear y0 y1 y2 y3 y4 y5 y6 z0 z1 z2 z3 z4 z5 z6
  refine (great_c k cl sq p1 n1 c1 gone p2 n2 c2 p3 n3 c3 _).mono ?_
  rintro e w2 ⟨rfl, hb⟩
  replace hA := hA.below hb
  replace hB := hB.below hb
  replace hb0 := hb0.trans (hb.mono hb0.size)
  clear hb
  obtain ⟨y0, y1, y2, y3, y4, y5, y6⟩ := blk7 hA
  obtain ⟨z0, z1, z2, z3, z4, z5, z6⟩ := blk7 hB
  cases hga : greatB k.size n1 n2 n3
  · skip
    go_wp2_with fail
    clear y0 y1 y2 y3 y4 y5 y6 z0 z1 z2 z3 z4 z5 z6
    refine (great_c kb clb sqb pb1 nb1 cb1 goneb pb2 nb2 cb2 pb3 nb3 cb3 _).mono ?_
    rintro e w3 ⟨rfl, hb⟩
    replace hA := hA.below hb
    replace hB := hB.below hb
    replace hb0 := hb0.trans (hb.mono hb0.size)
    clear hb
    obtain ⟨y0, y1, y2, y3, y4, y5, y6⟩ := blk7 hA
    obtain ⟨z0, z1, z2, z3, z4, z5, z6⟩ := blk7 hB
    cases hgb : greatB kb.size nb1 nb2 nb3
    · skip
      replace hn2 := hn2.out
      replace hn3 := hn3.out
      replace hnb2 := hnb2.out
      replace hnb3 := hnb3.out
      have hbd := great_no hga
      have hbd2 := great_no hgb
      have ct1 := fun w' hb => recText_c k cl sq p1 n1 c1 gone p2 n2 c2 p3 n3 c3 ds vs (by omega) hn2 w' (hD.below (w := w) (w' := w') hb) (hV.below hb)
      have ct2 := fun w' hb => recText_c kb clb sqb pb1 nb1 cb1 goneb pb2 nb2 cb2 pb3 nb3 cb3 dsb vsb (by omega) hnb2 w' (hDb.below (w := w) (w' := w') hb) (hVb.below hb)
      have co1 := fun w' hb => over_c k cl sq p1 n1 c1 gone p2 n2 c2 p3 n3 c3 k cl sq p1 n1 c1 gone p2 n2 c2 p3 n3 c3 ds ds (by omega) (by omega) w' (hD.below (w := w) (w' := w') hb) (hD.below hb)
      have co2 := fun w' hb => over_c kb clb sqb pb1 nb1 cb1 goneb pb2 nb2 cb2 pb3 nb3 cb3 kb clb sqb pb1 nb1 cb1 goneb pb2 nb2 cb2 pb3 nb3 cb3 dsb dsb (by omega) (by omega) w' (hDb.below (w := w) (w' := w') hb) (hDb.below hb)
      have co3 := fun w' hb => over_c k cl sq p1 n1 c1 gone p2 n2 c2 p3 n3 c3 kb clb sqb pb1 nb1 cb1 goneb pb2 nb2 cb2 pb3 nb3 cb3 ds dsb (by omega) (by omega) w' (hD.below (w := w) (w' := w') hb) (hDb.below hb)
      have co4 := fun w' hb => over_c kb clb sqb pb1 nb1 cb1 goneb pb2 nb2 cb2 pb3 nb3 cb3 k cl sq p1 n1 c1 gone p2 n2 c2 p3 n3 c3 dsb ds (by omega) (by omega) w' (hDb.below (w := w) (w' := w') hb) (hD.below hb)
      rw [over_self] at co1 co2
      have cc1 := fun w' hb => copyRec_c k cl sq p1 n1 c1 gone p2 n2 c2 p3 n3 c3 ds vs ss (by omega) hn2 (by omega) hn3 (by omega) w' (hD.below (w := w) (w' := w') hb) (hV.below hb) (hS.below hb)
      have cc2 := fun w' hb => copyRec_c kb clb sqb pb1 nb1 cb1 goneb pb2 nb2 cb2 pb3 nb3 cb3 dsb vsb ssb (by omega) hnb2 (by omega) hnb3 (by omega) w' (hDb.below (w := w) (w' := w') hb) (hVb.below hb) (hSb.below hb)
      have hz1 : (txtL k cl sq n1 ds gone vs).length = 0 → overB k cl sq n1 ds gone n2 kb clb sqb nb1 dsb goneb nb2 = false ∧ overB kb clb sqb nb1 dsb goneb nb2 k cl sq n1 ds gone n2 = false := by rw [hn2, hnb2]; exact over_zero1
      have hz2 : (txtL kb clb sqb nb1 dsb goneb vsb).length = 0 → overB k cl sq n1 ds gone n2 kb clb sqb nb1 dsb goneb nb2 = false ∧ overB kb clb sqb nb1 dsb goneb nb2 k cl sq n1 ds gone n2 = false := by rw [hn2, hnb2]; exact over_zero2
      have hfin : (txtL k cl sq n1 ds gone vs).length ≠ 0 → (txtL kb clb sqb nb1 dsb goneb vsb).length ≠ 0 → (eqL (txtL k cl sq n1 ds gone vs) (txtL kb clb sqb nb1 dsb goneb vsb) == sameR k cl sq ds gone vs [] kb clb sqb dsb goneb vsb []) = true := apart_eq hD.1 hDb.1 (by omega) (by omega)
      have hdz1 : (txtL k cl sq n1 ds gone vs).length ≠ 0 → 0 < n1 → dD ds 0 ≠ 0 := txt_first
      have hdz2 : (txtL kb clb sqb nb1 dsb goneb vsb).length ≠ 0 → 0 < nb1 → dD dsb 0 ≠ 0 := txt_first
      have hbig1 : (txtL k cl sq n1 ds gone vs).length ≤ 1000000 := txt_le (by omega) (by omega) (by omega)
      have hbig2 : (txtL kb clb sqb nb1 dsb goneb vsb).length ≤ 1000000 := txt_le (by omega) (by omega) (by omega)
      generalize txtL k cl sq n1 ds gone vs = TA at *
      generalize txtL kb clb sqb nb1 dsb goneb vsb = TB at *
      replace ct1 := Lib.hid ct1
      replace ct2 := Lib.hid ct2
      replace co1 := Lib.hid co1
      replace co2 := Lib.hid co2
      replace co3 := Lib.hid co3
      replace co4 := Lib.hid co4
      replace cc1 := Lib.hid cc1
      replace cc2 := Lib.hid cc2
      replace hz1 := Lib.hid hz1
      replace hz2 := Lib.hid hz2
      replace hfin := Lib.hid hfin
      replace hbig1 := Lib.hid hbig1
      replace hbig2 := Lib.hid hbig2
      replace hdz1 := Lib.hid hdz1
      replace hdz2 := Lib.hid hdz2
      replace hn2 := Lib.hid hn2
      replace hnb2 := Lib.hid hnb2
      replace hn3 := Lib.hid hn3
      replace hnb3 := Lib.hid hnb3
      replace hbd := Lib.hid hbd
      replace hbd2 := Lib.hid hbd2
      clear hga hgb hD hDb hV hVb hS hSb
      replace hA := hA.drew
      replace hB := hB.drew
      replace hb0 := hb0.drew
      clear y0 y1 y2 y3 y4 y5 y6 z0 z1 z2 z3 z4 z5 z6
      go_wp2
      go_region_held3 (fun w' => (w'.cell? ⟨GA, 0, none⟩ = some (.string k) ∧ w'.cell? ⟨GA, 1, none⟩ = some (.int .i64 cl) ∧ w'.cell? ⟨GA, 2, none⟩ = some (.int .i64 sq) ∧ w'.cell? ⟨GA, 3, none⟩ = some (.slice p1 n1 c1) ∧ w'.cell? ⟨GA, 4, none⟩ = some (.bool gone) ∧ w'.cell? ⟨GA, 5, none⟩ = some (.slice p2 n2 c2) ∧ w'.cell? ⟨GA, 6, none⟩ = some (.slice p3 n3 c3)) ∧ (w'.cell? ⟨GB, 0, none⟩ = some (.string kb) ∧ w'.cell? ⟨GB, 1, none⟩ = some (.int .i64 clb) ∧ w'.cell? ⟨GB, 2, none⟩ = some (.int .i64 sqb) ∧ w'.cell? ⟨GB, 3, none⟩ = some (.slice pb1 nb1 cb1) ∧ w'.cell? ⟨GB, 4, none⟩ = some (.bool goneb) ∧ w'.cell? ⟨GB, 5, none⟩ = some (.slice pb2 nb2 cb2) ∧ w'.cell? ⟨GB, 6, none⟩ = some (.slice pb3 nb3 cb3))) (first | exact ⟨blk7 hA5, blk7 hB5⟩ | exact ⟨blk7 hA4, blk7 hB4⟩ | exact ⟨blk7 hA, blk7 hB⟩) (first | (go_at_call 6; refine (ct1.out _ hb0).mono ?_; rintro q w4 ⟨r1, m1, d1, rfl, hm1, hT1, hb4, -⟩; replace hm1 := Lib.hid hm1; have hA4 := hA.below hb4; have hB4 := hB.below hb4; have hb04 := hb0.trans (hb4.mono hb0.size); clear ct1 hA hB hb0 hb4) | (go_at_call 6; refine (ct2.out _ hb04).mono ?_; rintro q w5 ⟨r2, m2, d2, rfl, hm2, hT2, hb5, -⟩; replace hm2 := Lib.hid hm2; have hA5 := hA4.below hb5; have hB5 := hB4.below hb5; have hT15 := hT1.below hb5; have hb05 := hb04.trans (hb5.mono hb04.size); clear ct2 hA4 hB4 hb04 hT1 hb5))
      have hA := hA5
      have hB := hB5
      have hb0 := hb05
      clear hA5 hB5 hb05
      obtain ⟨y0, y1, y2, y3, y4, y5, y6⟩ := blk7 hA
      obtain ⟨z0, z1, z2, z3, z4, z5, z6⟩ := blk7 hB
      go_wp2_with fail
      clear y0 y1 y2 y3 y4 y5 y6 z0 z1 z2 z3 z4 z5 z6
      refine (co1.out _ hb0).mono ?_
      rintro e w6 ⟨rfl, hb⟩
      replace hA := hA.below hb
      replace hB := hB.below hb
      replace hT15 := hT15.below hb
      replace hT2 := hT2.below hb
      replace hb0 := hb0.trans (hb.mono hb0.size)
      clear hb
      obtain ⟨y0, y1, y2, y3, y4, y5, y6⟩ := blk7 hA
      obtain ⟨z0, z1, z2, z3, z4, z5, z6⟩ := blk7 hB
      go_wp2_with fail
      clear y0 y1 y2 y3 y4 y5 y6 z0 z1 z2 z3 z4 z5 z6
      refine (co2.out _ hb0).mono ?_
      rintro e w7 ⟨rfl, hb⟩
      replace hA := hA.below hb
      replace hB := hB.below hb
      replace hT15 := hT15.below hb
      replace hT2 := hT2.below hb
      replace hb0 := hb0.trans (hb.mono hb0.size)
      clear hb
      by_cases hme : m1 = 0
      · have hz := hz1.out (by rw [← hm1.out]; exact hme)
        have co3' := co3.out
        have co4' := co4.out
        rw [hz.1] at co3'
        rw [hz.2] at co4'
        replace co3' := Lib.hid co3'
        replace co4' := Lib.hid co4'
        subst hme
        clear hdz1 hdz2 hz co3 co4 hz1 hz2 hfin hbig1 hbig2 co1 co2 hm1 hm2 cc1 cc2
        obtain ⟨y0, y1, y2, y3, y4, y5, y6⟩ := blk7 hA
        obtain ⟨z0, z1, z2, z3, z4, z5, z6⟩ := blk7 hB
        go_wp2_with fail
        clear y0 y1 y2 y3 y4 y5 y6 z0 z1 z2 z3 z4 z5 z6
        refine (co3'.out _ hb0).mono ?_
        rintro e w8 ⟨rfl, hb⟩
        replace hA := hA.below hb
        replace hB := hB.below hb
        replace hb0 := hb0.trans (hb.mono hb0.size)
        clear hb
        obtain ⟨y0, y1, y2, y3, y4, y5, y6⟩ := blk7 hA
        obtain ⟨z0, z1, z2, z3, z4, z5, z6⟩ := blk7 hB
        go_wp2_with fail
        clear y0 y1 y2 y3 y4 y5 y6 z0 z1 z2 z3 z4 z5 z6
        refine (co4'.out _ hb0).mono ?_
        rintro e w9 ⟨rfl, hb⟩
        replace hA := hA.below hb
        replace hB := hB.below hb
        replace hb0 := hb0.trans (hb.mono hb0.size)
        clear hb
        go_wp2
        go_returns
        exact ⟨rfl, hb0⟩
      · by_cases hme2 : m2 = 0
        · have hz := hz2.out (by rw [← hm2.out]; exact hme2)
          have co3' := co3.out
          have co4' := co4.out
          rw [hz.1] at co3'
          rw [hz.2] at co4'
          replace co3' := Lib.hid co3'
          replace co4' := Lib.hid co4'
          have he1 : ((m1 : Int) == 0) = false := by simp; omega
          subst hme2
          clear hme
          clear hdz1 hdz2 hz co3 co4 hz1 hz2 hfin hbig1 hbig2 co1 co2 hm1 hm2 cc1 cc2
          obtain ⟨y0, y1, y2, y3, y4, y5, y6⟩ := blk7 hA
          obtain ⟨z0, z1, z2, z3, z4, z5, z6⟩ := blk7 hB
          go_wp2_with fail
          clear y0 y1 y2 y3 y4 y5 y6 z0 z1 z2 z3 z4 z5 z6
          refine (co3'.out _ hb0).mono ?_
          rintro e w8 ⟨rfl, hb⟩
          replace hA := hA.below hb
          replace hB := hB.below hb
          replace hb0 := hb0.trans (hb.mono hb0.size)
          clear hb
          obtain ⟨y0, y1, y2, y3, y4, y5, y6⟩ := blk7 hA
          obtain ⟨z0, z1, z2, z3, z4, z5, z6⟩ := blk7 hB
          go_wp2_with fail
          clear y0 y1 y2 y3 y4 y5 y6 z0 z1 z2 z3 z4 z5 z6
          refine (co4'.out _ hb0).mono ?_
          rintro e w9 ⟨rfl, hb⟩
          replace hA := hA.below hb
          replace hB := hB.below hb
          replace hb0 := hb0.trans (hb.mono hb0.size)
          clear hb
          go_wp2
          go_returns
          exact ⟨rfl, hb0⟩
        · have hf := hfin.out (by rw [← hm1.out]; exact hme) (by rw [← hm2.out]; exact hme2)
          have hbg1 := hbig1.out
          have hbg2 := hbig2.out
          rw [← hm1.out] at hbg1
          rw [← hm2.out] at hbg2
          have he1 : ((m1 : Int) == 0) = false := by simp; omega
          have he2 : ((m2 : Int) == 0) = false := by simp; omega
          replace hdz1 := hdz1.out (by rw [← hm1.out]; exact hme)
          replace hdz2 := hdz2.out (by rw [← hm2.out]; exact hme2)
          replace hdz1 := Lib.hid hdz1
          replace hdz2 := Lib.hid hdz2
          have HLO := Lib.hid hb0.size
          replace hf := Lib.hid hf
          replace hbg1 := Lib.hid hbg1
          replace hbg2 := Lib.hid hbg2
          clear co3 co4 hz1 hz2 hfin hbig1 hbig2 co1 co2 hme hme2
          replace hm1 := Lib.hid hm1
          go_wp2
          refine wp_region_grow2 6 (fun k => (Nat.ble 7 k && Nat.ble k 8) || (Nat.ble 47 k && Nat.ble k 50)) _ [] (fun j x' q => (ra10L k cl sq p1 n1 c1 gone p2 n2 c2 p3 n3 c3 kb clb sqb pb1 nb1 cb1 goneb pb2 nb2 cb2 pb3 nb3 cb3 ds vs ss dsb vsb ssb w7.heap.size).getD j (fun _ _ => True) x' q) (fun j => j == 4 || j == 5) (fun f => #[.agg #[.string k, .int .i64 cl, .int .i64 sq, .slice p1 n1 c1, .bool gone, .slice p2 n2 c2, .slice p3 n3 c3], .agg #[.string kb, .int .i64 clb, .int .i64 sqb, .slice pb1 nb1 cb1, .bool goneb, .slice pb2 nb2 cb2, .slice pb3 nb3 cb3], .pointer (some ⟨GA, 0, none⟩), .pointer (some ⟨GB, 0, none⟩), .bool false, .slice r1 m1 d1, .slice r2 m2 d2, f 7, f 8, .bool true, .bool false, .agg #[.string k, .int .i64 cl, .int .i64 sq, .slice p1 n1 c1, .bool gone, .slice p2 n2 c2, .slice p3 n3 c3], .bool false, .bool false, .agg #[.string kb, .int .i64 clb, .int .i64 sqb, .slice pb1 nb1 cb1, .bool goneb, .slice pb2 nb2 cb2, .slice pb3 nb3 cb3], .bool false, .bool false, .agg #[.string k, .int .i64 cl, .int .i64 sq, .slice p1 n1 c1, .bool gone, .slice p2 n2 c2, .slice p3 n3 c3], .slice r1 m1 d1, .agg #[.string kb, .int .i64 clb, .int .i64 sqb, .slice pb1 nb1 cb1, .bool goneb, .slice pb2 nb2 cb2, .slice pb3 nb3 cb3], .slice r2 m2 d2, .agg #[.string k, .int .i64 cl, .int .i64 sq, .slice p1 n1 c1, .bool gone, .slice p2 n2 c2, .slice p3 n3 c3], .agg #[.string k, .int .i64 cl, .int .i64 sq, .slice p1 n1 c1, .bool gone, .slice p2 n2 c2, .slice p3 n3 c3], .bool false, .bool false, .agg #[.string kb, .int .i64 clb, .int .i64 sqb, .slice pb1 nb1 cb1, .bool goneb, .slice pb2 nb2 cb2, .slice pb3 nb3 cb3], .agg #[.string kb, .int .i64 clb, .int .i64 sqb, .slice pb1 nb1 cb1, .bool goneb, .slice pb2 nb2 cb2, .slice pb3 nb3 cb3], .bool false, .bool false, .slice r1 m1 d1, .int .i64 m1, .bool false, .bool false, .slice r2 m2 d2, .int .i64 m2, .bool false, .bool false, undef, undef, undef, undef, undef, undef, undef, undef, undef, undef, f 47, f 48, f 49, f 50, undef, undef, undef, undef, undef, undef, undef, undef, undef]) (fun f => rfl) (by kernel_rfl) (by kernel_rfl) (by kernel_rfl) (by kernel_rfl) (by kernel_rfl) (ra10S _ _ _ _ _ _ _ _ _ _ _ _ _ _ _ _ _ _ _ _ _ _ _ _ _ _ _ _ _ _ _ _ _) (ra10O _ _ _ _ _ _ _ _ _ _ _ _ _ _ _ _ _ _ _ _ _ _ _ _ _ _ _ _ _ _ _ _ _) ?_ ?_
          · refine steps2_cons ?_ ?_
            · intro f w1 hb hd Q hK
              clear hd
              have hK := Lib.hid hK
              obtain ⟨c0, c1, c2, c3, c4, c5, c6⟩ := blk7 (hA.below hb)
              go_wp2
              exact hK.out _ _ rfl (Below.refl _ _) (fun h => by cases h)
            refine steps2_cons ?_ ?_
            · intro f w1 hb hd Q hK
              have e47 : f 47 = .agg #[.string k, .int .i64 cl, .int .i64 sq, .slice p1 n1 c1, .bool gone, .slice p2 n2 c2, .slice p3 n3 c3] := hd.1 rfl
              clear hd
              simp only [e47] at hK
              have hK := Lib.hid hK
              go_wp2_with fail
              refine (cc1.out _ (hb0.trans (hb.mono hb0.size))).mono ?_
              rintro e w2 ⟨q1, x1, q2, x2, q3, x3, rfl, hq1, hq2, hq3, hb2⟩
              go_wp2
              exact hK.out _ _ ⟨q1, x1, q2, x2, q3, x3, rfl, hq1, hq2, hq3⟩ hb2 (fun h => by cases h)
            refine steps2_cons ?_ ?_
            · intro f w1 hb hd Q hK
              clear hd
              have hK := Lib.hid hK
              obtain ⟨c0, c1, c2, c3, c4, c5, c6⟩ := blk7 (hB.below hb)
              go_wp2
              exact hK.out _ _ rfl (Below.refl _ _) (fun h => by cases h)
            refine steps2_cons ?_ ?_
            · intro f w1 hb hd Q hK
              have e49 : f 49 = .agg #[.string kb, .int .i64 clb, .int .i64 sqb, .slice pb1 nb1 cb1, .bool goneb, .slice pb2 nb2 cb2, .slice pb3 nb3 cb3] := hd.1 rfl
              clear hd
              simp only [e49] at hK
              have hK := Lib.hid hK
              go_wp2_with fail
              refine (cc2.out _ (hb0.trans (hb.mono hb0.size))).mono ?_
              rintro e w2 ⟨q1, x1, q2, x2, q3, x3, rfl, hq1, hq2, hq3, hb2⟩
              go_wp2
              exact hK.out _ _ ⟨q1, x1, q2, x2, q3, x3, rfl, hq1, hq2, hq3⟩ hb2 (fun h => by cases h)
            refine steps2_cons ?_ ?_
            · intro f w1 hb hd Q hK
              clear hd
              have hK := Lib.hid hK
              have hsz := hb.size
              go_wp2
              exact hK.out _ _ ⟨_, rfl, hsz, Blk.new _ _ _⟩ ((Below.refl _ _).alloc (Nat.le_refl _) _) (fun _ => ⟨_, rfl, Nat.le_refl _⟩)
            refine steps2_cons ?_ ?_
            · intro f w1 hb hd Q hK
              clear hd
              have hK := Lib.hid hK
              have hsz := hb.size
              go_wp2
              exact hK.out _ _ ⟨_, rfl, hsz, Blk.new _ _ _⟩ ((Below.refl _ _).alloc (Nat.le_refl _) _) (fun _ => ⟨_, rfl, Nat.le_refl _⟩)
            trivial
          · intro f10 y1 hb hf hne
            obtain ⟨g7, d7, lo7, bk7⟩ : NewB w7.heap.size 25 #[.string ⟨#[]⟩, .int .i64 0, .int .i64 0, .slice none 0 0, .bool false, .slice none 0 0, .slice none 0 0] (f10 7) y1 := hf 4 _ _ (by decide) rfl rfl
            obtain ⟨g8, d8, lo8, bk8⟩ : NewB w7.heap.size 25 #[.string ⟨#[]⟩, .int .i64 0, .int .i64 0, .slice none 0 0, .bool false, .slice none 0 0, .slice none 0 0] (f10 8) y1 := hf 5 _ _ (by decide) rfl rfl
            obtain ⟨q1, qa, q2, qb, q3, qc, d48, Hq1, Hq2, Hq3⟩ : RecP k cl sq n1 gone ds vs ss (f10 48) y1 := hf 1 _ _ (by decide) rfl rfl
            obtain ⟨s1, sa, s2, sb, s3, sc, d50, Hs1, Hs2, Hs3⟩ : RecP kb clb sqb nb1 goneb dsb vsb ssb (f10 50) y1 := hf 3 _ _ (by decide) rfl rfl
            have hne' : g7 ≠ g8 := by
              have := hne 4 5 _ _ _ _ (by decide) (by decide) (by decide) rfl rfl rfl rfl rfl rfl
              rw [d7, d8] at this
              exact fun h => this (by rw [h])
            clear hf hne
            simp only [d7, d8, d48, d50]
            clear d7 d8 d48 d50
            have HT1 := (show BytesL w7 r1 TA from hT15).below hb
            have HT2 := (show BytesL w7 r2 TB from hT2).below hb
            have OHT17 : 0 < TA.length → ∀ ad, r1 = some ad → some ad.block ≠ some g7 := fun h ad e hh => by
              obtain ⟨g, o, e2, hg, _⟩ := (show BytesL w7 r1 TA from hT15) h
              rw [e2] at e; injection e with e; injection hh with hh; rw [← e] at hh; simp only at hh; omega
            have OHT18 : 0 < TA.length → ∀ ad, r1 = some ad → some ad.block ≠ some g8 := fun h ad e hh => by
              obtain ⟨g, o, e2, hg, _⟩ := (show BytesL w7 r1 TA from hT15) h
              rw [e2] at e; injection e with e; injection hh with hh; rw [← e] at hh; simp only at hh; omega
            have OHT27 : 0 < TB.length → ∀ ad, r2 = some ad → some ad.block ≠ some g7 := fun h ad e hh => by
              obtain ⟨g, o, e2, hg, _⟩ := (show BytesL w7 r2 TB from hT2) h
              rw [e2] at e; injection e with e; injection hh with hh; rw [← e] at hh; simp only at hh; omega
            have OHT28 : 0 < TB.length → ∀ ad, r2 = some ad → some ad.block ≠ some g8 := fun h ad e hh => by
              obtain ⟨g, o, e2, hg, _⟩ := (show BytesL w7 r2 TB from hT2) h
              rw [e2] at e; injection e with e; injection hh with hh; rw [← e] at hh; simp only at hh; omega
            have OHq17 := dots_ne bk7 Hq1 hdz1.out
            have OHq27 := bytes_ne bk7 Hq2
            have OHs17 := dots_ne bk7 Hs1 hdz2.out
            have OHs27 := bytes_ne bk7 Hs2
            have OHq18 := dots_ne bk8 Hq1 hdz1.out
            have OHq28 := bytes_ne bk8 Hq2
            have OHs18 := dots_ne bk8 Hs1 hdz2.out
            have OHs28 := bytes_ne bk8 Hs2
            clear hT15 hT2 Hq3 Hs3 hA hB
            refine stRec rfl rfl rfl rfl bk7 rfl (by kernel_rfl) ?_
            intro w8 hC hgr hsz
            replace bk8 := bk8.grown hgr (fun h => hne' (by injection h with h; exact h.symm))
            replace Hq1 := Hq1.grown' hgr (fun h ad e => OHq17 h ad e)
            replace Hq2 := Hq2.grown' hgr (fun h ad e => OHq27 h ad e)
            replace Hs1 := Hs1.grown' hgr (fun h ad e => OHs17 h ad e)
            replace Hs2 := Hs2.grown' hgr (fun h ad e => OHs27 h ad e)
            replace HT1 := HT1.grown' hgr (fun h ad e => OHT17 h ad e)
            replace HT2 := HT2.grown' hgr (fun h ad e => OHT27 h ad e)
            replace hb0 := (hb0.trans (hb.mono hb0.size)).grown hgr (Nat.le_trans hb0.size hb.size) (fun k hk => by injection hk with hk; have := hb0.size; omega)
            clear hgr hsz hb
            refine stRec rfl rfl rfl rfl bk8 rfl (by kernel_rfl) ?_
            intro w9 hDD hgr hsz
            replace hC := hC.grown hgr (fun h => hne' (by injection h))
            replace Hq1 := Hq1.grown' hgr (fun h ad e => OHq18 h ad e)
            replace Hq2 := Hq2.grown' hgr (fun h ad e => OHq28 h ad e)
            replace Hs1 := Hs1.grown' hgr (fun h ad e => OHs18 h ad e)
            replace Hs2 := Hs2.grown' hgr (fun h ad e => OHs28 h ad e)
            replace HT1 := HT1.grown' hgr (fun h ad e => OHT18 h ad e)
            replace HT2 := HT2.grown' hgr (fun h ad e => OHT28 h ad e)
            replace hb0 := hb0.grown hgr hb0.size (fun k hk => by injection hk with hk; have := lo8; have := HLO.out; omega)
            clear hgr hsz bk7 bk8
            refine wpList_nil ?_
            have cC := hC.cell 6
            have cD := hDD.cell 6
            have fC := fun j => hC.frozen j
            have fD := fun j => hDD.frozen j
            simp only [List.getElem?_toArray, List.getElem?_cons_zero, List.getElem?_cons_succ] at cC cD
            go_wp2
            clear cC cD fC fD
            refine at_world (fun W9 hW => ?_)
            have gA := grown_setCells g7 [.slice none 0 0] 6 w9
            have gB := grown_setCells g8 [.slice none 0 0] 6 (w9.setCells g7 6 [.slice none 0 0])
            have hC9 : Blk W9 g7 25 #[.string k, .int .i64 cl, .int .i64 sq, .slice q1 n1 qa, .bool gone, .slice q2 vs.length qb, .slice none 0 0] := by rw [hW]; exact (hC.set_ 6 (.slice none 0 0)).far (p := ⟨g8, 6, none⟩) hne' _
            have hD9 : Blk W9 g8 25 #[.string kb, .int .i64 clb, .int .i64 sqb, .slice s1 nb1 sa, .bool goneb, .slice s2 vsb.length sb, .slice none 0 0] := by rw [hW]; exact (hDD.far (p := ⟨g7, 6, none⟩) (fun h => hne' h.symm) (.slice none 0 0)).set_ 6 _
            replace Hq1 := Hq1.grown' gA (fun h ad e => OHq17 h ad e)
            replace Hq2 := Hq2.grown' gA (fun h ad e => OHq27 h ad e)
            replace Hs1 := Hs1.grown' gA (fun h ad e => OHs17 h ad e)
            replace Hs2 := Hs2.grown' gA (fun h ad e => OHs27 h ad e)
            replace HT1 := HT1.grown' gA (fun h ad e => OHT17 h ad e)
            replace HT2 := HT2.grown' gA (fun h ad e => OHT27 h ad e)
            replace Hq1 := Hq1.grown' gB (fun h ad e => OHq18 h ad e)
            replace Hq2 := Hq2.grown' gB (fun h ad e => OHq28 h ad e)
            replace Hs1 := Hs1.grown' gB (fun h ad e => OHs18 h ad e)
            replace Hs2 := Hs2.grown' gB (fun h ad e => OHs28 h ad e)
            replace HT1 := HT1.grown' gB (fun h ad e => OHT18 h ad e)
            replace HT2 := HT2.grown' gB (fun h ad e => OHT28 h ad e)
            replace hb0 := hb0.grown gA hb0.size (fun k hk => by injection hk with hk; have := lo7; have := HLO.out; omega)
            replace hb0 := hb0.grown gB hb0.size (fun k hk => by injection hk with hk; have := lo8; have := HLO.out; omega)
            have hWe : W9 = (w9.setCells g7 6 [.slice none 0 0]).setCells g8 6 [.slice none 0 0] := hW
            rw [← hWe] at Hq1 Hq2 Hs1 Hs2 HT1 HT2 hb0
            clear hW hWe gA gB hC hDD OHq17 OHq18 OHq27 OHq28 OHs17 OHs18 OHs27 OHs28 OHT17 OHT18 OHT27 OHT28
            have hbz := hbd.out
            have hbz2 := hbd2.out
            have hv1 : vs.length ≤ 1000000 := by have := hn2.out; omega
            have hv2 : vsb.length ≤ 1000000 := by have := hnb2.out; omega
            have csb := fun w' hb => sameBytes_c r1 r2 m1 d1 m2 d2 TA TB hm1.out hm2.out hbg1.out hbg2.out w' (BytesL.below (w := W9.drew) (w' := w') HT1 hb) (BytesL.below (w := W9.drew) HT2 hb)
            have csr := fun w' hb => sameRec_c k cl sq q1 n1 qa gone q2 vs.length qb none 0 0 kb clb sqb s1 nb1 sa goneb s2 vsb.length sb none 0 0 ds vs [] dsb vsb [] (by omega) (by omega) rfl hv1 rfl (by decide) rfl hv2 rfl (by decide) w' (DotsL.below (w := W9.drew) (w' := w') Hq1 hb) (BytesL.below (w := W9.drew) Hq2 hb) (fun h => absurd h (by decide)) (DotsL.below (w := W9.drew) Hs1 hb) (BytesL.below (w := W9.drew) Hs2 hb) (fun h => absurd h (by decide))
            clear hbz hbz2 hv1 hv2 Hq1 Hq2 Hs1 Hs2 HT1 HT2
            generalize eqL TA TB = e1 at *
            generalize sameR k cl sq ds gone vs [] kb clb sqb dsb goneb vsb [] = e2 at *
            replace csb := Lib.hid csb
            replace csr := Lib.hid csr
            replace hC9 := hC9.drew
            replace hD9 := hD9.drew
            replace hb0 := hb0.drew
            go_region_held3 (fun w' => (w'.cell? ⟨g7, 0, none⟩ = some (.string k) ∧ w'.cell? ⟨g7, 1, none⟩ = some (.int .i64 cl) ∧ w'.cell? ⟨g7, 2, none⟩ = some (.int .i64 sq) ∧ w'.cell? ⟨g7, 3, none⟩ = some (.slice q1 n1 qa) ∧ w'.cell? ⟨g7, 4, none⟩ = some (.bool gone) ∧ w'.cell? ⟨g7, 5, none⟩ = some (.slice q2 vs.length qb) ∧ w'.cell? ⟨g7, 6, none⟩ = some (.slice none 0 0)) ∧ (w'.cell? ⟨g8, 0, none⟩ = some (.string kb) ∧ w'.cell? ⟨g8, 1, none⟩ = some (.int .i64 clb) ∧ w'.cell? ⟨g8, 2, none⟩ = some (.int .i64 sqb) ∧ w'.cell? ⟨g8, 3, none⟩ = some (.slice s1 nb1 sa) ∧ w'.cell? ⟨g8, 4, none⟩ = some (.bool goneb) ∧ w'.cell? ⟨g8, 5, none⟩ = some (.slice s2 vsb.length sb) ∧ w'.cell? ⟨g8, 6, none⟩ = some (.slice none 0 0))) (first | exact ⟨blk7 hC11, blk7 hD11⟩ | exact ⟨blk7 hC10, blk7 hD10⟩ | exact ⟨blk7 hC9, blk7 hD9⟩) (first | (go_at_call 9; refine (csb.out _ (Below.refl _ _)).mono ?_; rintro q w10 ⟨rfl, hb10⟩; have hC10 := hC9.below hb10; have hD10 := hD9.below hb10; have hb010 := hb0.trans (hb10.mono hb0.size); clear csb hC9 hD9) | (go_at_call 10; refine (csr.out _ hb10).mono ?_; rintro q w11 ⟨rfl, hb11⟩; have hC11 := hC10.below hb11; have hD11 := hD10.below hb11; have hb011 := hb010.trans (hb11.mono hb010.size); clear csr hC10 hD10))
            go_wp2
            go_returns
            refine ⟨?_, hb011⟩
            have := hf.out
            cases e1 <;> cases e2 <;> first | rfl | (exact absurd this (by decide))
    · go_wp2
      go_returns
      exact ⟨rfl, hb0⟩
  · go_wp2
    go_returns
    exact ⟨rfl, hb0⟩
end Go.Proofs.Ytcppaejfdjfaoaa
