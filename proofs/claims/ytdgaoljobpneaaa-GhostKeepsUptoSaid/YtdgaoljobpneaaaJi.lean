/- The walk of SameRecord. -/
import Derived.Test.YtdgaoljobpneaaaJg
namespace Go.Proofs.Ytdgaoljobpneaaa
open Go.RowKit
theorem RowAt.grown {w w' : World} {p : Option Addr} {m : Nat} {f : Nat → Value} {row : Option Nat} (h : RowAt w p m f) (hg : w.grownBy w' row) (hne : ∀ ad, p = some ad → some ad.block ≠ row) : RowAt w' p m f := fun hm => by
  obtain ⟨g, o, e, hlt, hc⟩ := h hm
  exact ⟨g, o, e, Nat.lt_of_lt_of_le hlt hg.size, fun j hj => (hg.cell_far ⟨g, o + j, none⟩ hlt (by have := hne _ e; exact this)).trans (hc j hj)⟩
theorem DotsL.grown {w w' : World} {p : Option Addr} {n : Nat} {ds : List Int} {row : Option Nat} (h : DotsL w p n ds) (hg : w.grownBy w' row) (hne : ∀ ad, p = some ad → some ad.block ≠ row) : DotsL w' p n ds := ⟨h.1, RowAt.grown h.2 hg hne⟩
theorem BytesL.grown {w w' : World} {p : Option Addr} {xs : List Int} {row : Option Nat} (h : BytesL w p xs) (hg : w.grownBy w' row) (hne : ∀ ad, p = some ad → some ad.block ≠ row) : BytesL w' p xs := RowAt.grown h hg hne
def PostDf (n : Nat) (ds : List Int) (w : World) (e : Ending) (w' : World) : Prop := ∃ p c, e = .returned (.slice p n c) ∧ DotsL w' p n ds ∧ Below w.heap.size w w' ∧ ∀ ad, p = some ad → w.heap.size ≤ ad.block
theorem postDf_own {w w' : World} {v : Value} {n : Nat} {ds : List Int} (hl : ds.length = 2 * n) (h : w'.ownsRow w.heap.size 86 2 v n (dL ds)) (hb : Below w.heap.size w w') : PostDf n ds w (.returned v) w' := by
  rcases h.2 with ⟨rfl, h0⟩ | ⟨g, cap, cur, rfl, h1, h2, h3, h4, h5, h6⟩
  · subst h0
    exact ⟨_, _, rfl, ⟨hl, fun hp => by omega⟩, hb, fun ad h => by cases h⟩
  · refine ⟨_, _, rfl, ⟨hl, fun _ => ⟨g, 0, rfl, (Array.getElem?_eq_some_iff.1 h2).1, fun j hj => ?_⟩⟩, hb, fun ad h => by injection h with h; rw [← h]; exact h1⟩
    rw [Nat.zero_add, h.cellAt j (by omega)]
    have hj2 : j < ds.length := by omega
    simp [dL, hj2]
theorem rec_size : (Try.prog.info? 25).map (·.size) = some 7 := by kernel_rfl
theorem rec_under : ∃ d, Try.prog.underlying 25 = some d ∧ (match d with | .struct _ | .array _ _ => true | _ => false) = true := by
  cases h : Try.prog.underlying 25 with
  | none => exact absurd (show (Try.prog.underlying 25).isSome = true by kernel_rfl) (by rw [h]; decide)
  | some d => exact ⟨d, rfl, by have := show (match Try.prog.underlying 25 with | some (.struct _) | some (.array _ _) => true | _ => false) = true by kernel_rfl
                                rw [h] at this
                                cases d <;> simp_all⟩
theorem retRec {fn : Func} {p : Tmp} {g : Nat} {tmps : Array Value} {D : List Deferred} {w : World} {R : Ending → World → Prop} {x0 x1 x2 x3 x4 x5 x6 : Value} (h : fn.results = #[.cell p 25]) (hp : tmps.getD p undef = .pointer (some ⟨g, 0, none⟩)) (hg : Blk w g 25 #[x0, x1, x2, x3, x4, x5, x6]) (hD : D = []) (hR : R (.returned (.agg #[x0, x1, x2, x3, x4, x5, x6])) w) : bodyPost Try.prog fn R .ret ⟨tmps, D⟩ w := by
  obtain ⟨d, hd, hs⟩ := rec_under
  exact bodyPost_ret (results_cell_row h tmps w g 25 #[x0, x1, x2, x3, x4, x5, x6] (0, 0) d hp hg hd (by revert hs; cases d <;> exact fun h => h) rec_size) hD hR
theorem stRec {ops : Array Oper} {rest : List Oper} {o : Oper} {a : Act} {w : World} {Q : Exit → Act → World → Prop} (hgd : o.guard = none) {x y : Operand} (ho : o.op = .store 25 x y) {g : Nat} {x0 x1 x2 x3 x4 x5 x6 : Value} {old : Array Value} (hx : a.eval x = .pointer (some ⟨g, 0, none⟩)) (hy : a.eval y = .agg #[x0, x1, x2, x3, x4, x5, x6]) (hg : Blk w g 25 old) (hs : old.size = 7) (h1 : (#[x0, x1, x2, x3, x4, x5, x6] : Array Value).all (·.oneCell') = true)
    (h : ∀ w', Blk w' g 25 #[x0, x1, x2, x3, x4, x5, x6] → w.grownBy w' (some g) → w'.heap.size = w.heap.size → wpList Try.prog ops Q rest (a.put o.dst undef) w') : wpList Try.prog ops Q (o :: rest) a w :=
  wpList_store_blk hgd 25 x y ho g 25 old _ hx hy hg hs rec_size h1 h
/-- a record of the same parts is answered -/
def PostR (k : ByteArray) (cl sq : Int) (n1 : Nat) (gone : Bool) (ds vs ss : List Int) (w : World) (e : Ending) (w' : World) : Prop := ∃ q1 d1 q2 d2 q3 d3, e = .returned (.agg #[.string k, .int .i64 cl, .int .i64 sq, .slice q1 n1 d1, .bool gone, .slice q2 vs.length d2, .slice q3 ss.length d3]) ∧ DotsL w' q1 n1 ds ∧ BytesL w' q2 vs ∧ BytesL w' q3 ss ∧ Below w.heap.size w w'
def sameR (k : ByteArray) (cl sq : Int) (ds : List Int) (gone : Bool) (vs ss : List Int) (kb : ByteArray) (clb sqb : Int) (dsb : List Int) (goneb : Bool) (vsb ssb : List Int) : Bool :=
  decide (k.toList = kb.toList) && (decide (cl = clb) && (decide (sq = sqb) && (eqL ds dsb && ((gone == goneb) && (eqL vs vsb && eqL ss ssb)))))
set_option maxRecDepth 20000 in
set_option maxHeartbeats 8000000 in
theorem sameRec_c (k : ByteArray) (cl sq : Int) (p1 : Option Addr) (n1 c1 : Nat) (gone : Bool) (p2 : Option Addr) (n2 c2 : Nat) (p3 : Option Addr) (n3 c3 : Nat) (kb : ByteArray) (clb sqb : Int) (pb1 : Option Addr) (nb1 cb1 : Nat) (goneb : Bool) (pb2 : Option Addr) (nb2 cb2 : Nat) (pb3 : Option Addr) (nb3 cb3 : Nat) (ds vs ss dsb vsb ssb : List Int) (hn1 : n1 ≤ 400000) (hnb1 : nb1 ≤ 400000) (hn2 : n2 = vs.length) (hn2' : n2 ≤ 1000000) (hn3 : n3 = ss.length) (hn3' : n3 ≤ 1000000) (hnb2 : nb2 = vsb.length) (hnb2' : nb2 ≤ 1000000) (hnb3 : nb3 = ssb.length) (hnb3' : nb3 ≤ 1000000)
    (w : World) (hD : DotsL w p1 n1 ds) (hV : BytesL w p2 vs) (hS : BytesL w p3 ss) (hDb : DotsL w pb1 nb1 dsb) (hVb : BytesL w pb2 vsb) (hSb : BytesL w pb3 ssb) :
    Calls Try.prog 17 #[.agg #[.string k, .int .i64 cl, .int .i64 sq, .slice p1 n1 c1, .bool gone, .slice p2 n2 c2, .slice p3 n3 c3], .agg #[.string kb, .int .i64 clb, .int .i64 sqb, .slice pb1 nb1 cb1, .bool goneb, .slice pb2 nb2 cb2, .slice pb3 nb3 cb3]] w fun e w' => e = .returned (.bool (sameR k cl sq ds gone vs ss kb clb sqb dsb goneb vsb ssb)) ∧ Below w.heap.size w w' := by
  have cd := fun w' hb => sameDots_c p1 pb1 n1 c1 nb1 cb1 ds dsb (by omega) (by omega) w' (hD.below (w := w) (w' := w') hb) (hDb.below hb)
  have cv := fun w' hb => sameBytes_c p2 pb2 n2 c2 nb2 cb2 vs vsb hn2 hnb2 hn2' hnb2' w' (hV.below (w := w) (w' := w') hb) (hVb.below hb)
  have csg := fun w' hb => sameBytes_c p3 pb3 n3 c3 nb3 cb3 ss ssb hn3 hnb3 hn3' hnb3' w' (hS.below (w := w) (w' := w') hb) (hSb.below hb)
  obtain ⟨E, hE⟩ : ∃ E, E = sameR k cl sq ds gone vs ss kb clb sqb dsb goneb vsb ssb := ⟨_, rfl⟩
  rw [← hE]
  unfold sameR at hE
  generalize eqL ds dsb = e1 at *
  generalize eqL vs vsb = e2 at *
  generalize eqL ss ssb = e3 at *
  replace cd := Lib.hid cd
  replace cv := Lib.hid cv
  replace csg := Lib.hid csg
  replace hE := Lib.hid hE
  clear hD hV hS hDb hVb hSb hn2 hn2' hn3 hn3' hnb2 hnb2' hnb3 hnb3' hn1 hnb1
  go_enter Try.func17, Try.ntmps17
  by_cases hk : k.toList = kb.toList
  · rw [decide_eq_true hk, Bool.true_and] at hE
    have hkk : (k.toList == kb.toList) = true := by rw [hk]; exact beq_self_eq_true _
    clear hk
    by_cases hc : cl = clb
    · rw [decide_eq_true hc, Bool.true_and] at hE
      subst hc
      by_cases hs : sq = sqb
      · rw [decide_eq_true hs, Bool.true_and] at hE
        subst hs
        go_wp2_with fail
        refine calls_at (fun W0 hW => ?_)
        have hA : Blk W0 w.heap.size 25 #[.string k, .int .i64 cl, .int .i64 sq, .slice p1 n1 c1, .bool gone, .slice p2 n2 c2, .slice p3 n3 c3] := by rw [hW]; exact (Blk.new _ _ _).alloc _
        have hB : Blk W0 (w.heap.size + 1) 25 #[.string kb, .int .i64 cl, .int .i64 sq, .slice pb1 nb1 cb1, .bool goneb, .slice pb2 nb2 cb2, .slice pb3 nb3 cb3] := by rw [hW]; exact blk_at (by simp) (Blk.new _ _ _)
        have hb0 : Below w.heap.size w W0 := by rw [hW]; go_grown
        clear hW
        refine (cd.out _ hb0).mono ?_
        rintro e w1 ⟨rfl, hb⟩
        replace hA := hA.below hb
        replace hB := hB.below hb
        replace hb0 := hb0.trans (hb.mono hb0.size)
        clear hb cd
        obtain ⟨y0, y1, y2, y3, y4, y5, y6⟩ := blk7 hA
        obtain ⟨z0, z1, z2, z3, z4, z5, z6⟩ := blk7 hB
        cases e1
        · rw [Bool.false_and] at hE
          go_wp2
          go_returns
          exact ⟨by rw [hE.out]; rfl, hb0⟩
        · rw [Bool.true_and] at hE
          cases hgg : (gone == goneb)
          · rw [hgg, Bool.false_and] at hE
            have hgg2 : gone ≠ goneb := by simpa using hgg
            go_wp2
            go_returns
            exact ⟨by rw [hE.out]; rfl, hb0⟩
          · rw [hgg, Bool.true_and] at hE
            obtain rfl : gone = goneb := by simpa using hgg
            go_wp2_with fail
            clear y0 y1 y2 y3 y4 y5 y6 z0 z1 z2 z3 z4 z5 z6
            refine (cv.out _ hb0).mono ?_
            rintro e w2 ⟨rfl, hb⟩
            replace hA := hA.below hb
            replace hB := hB.below hb
            replace hb0 := hb0.trans (hb.mono hb0.size)
            clear hb cv
            obtain ⟨y0, y1, y2, y3, y4, y5, y6⟩ := blk7 hA
            obtain ⟨z0, z1, z2, z3, z4, z5, z6⟩ := blk7 hB
            cases e2
            · rw [Bool.false_and] at hE
              go_wp2
              go_returns
              exact ⟨by rw [hE.out]; rfl, hb0⟩
            · rw [Bool.true_and] at hE
              go_wp2_with fail
              clear y0 y1 y2 y3 y4 y5 y6 z0 z1 z2 z3 z4 z5 z6
              refine (csg.out _ hb0).mono ?_
              rintro e w3 ⟨rfl, hb⟩
              go_wp2
              go_returns
              exact ⟨by rw [hE.out]; rfl, hb0.trans (hb.mono hb0.size)⟩
      · rw [decide_eq_false hs, Bool.false_and] at hE
        have hs2 : (sq == sqb) = false := beq_false_of_ne hs
        clear cd cv csg
        go_wp2
        go_returns
        exact ⟨by rw [hE.out]; rfl, by go_grown⟩
    · rw [decide_eq_false hc, Bool.false_and] at hE
      have hc2 : (cl == clb) = false := beq_false_of_ne hc
      clear cd cv csg
      go_wp2
      go_returns
      exact ⟨by rw [hE.out]; rfl, by go_grown⟩
  · rw [decide_eq_false hk, Bool.false_and] at hE
    have hkk : (k.toList == kb.toList) = false := beq_false_of_ne hk
    clear cd cv csg hk
    go_wp2
    go_returns
    exact ⟨by rw [hE.out]; rfl, by go_grown⟩
end Go.Proofs.Ytdgaoljobpneaaa
