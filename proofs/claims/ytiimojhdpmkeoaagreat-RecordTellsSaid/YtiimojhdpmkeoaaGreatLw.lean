/- The walk of the law RecordTells. -/
import Derived.Test.YtiimojhdpmkeoaaGreatLv
namespace Go.Proofs.YtiimojhdpmkeoaaGreat
open Go.RowKit
def rl5L (k : ByteArray) (cl : Int) (sq : Int) (p1 : Option Addr) (n1 : Nat) (c1 : Nat) (gone : Bool) (p2 : Option Addr) (c2 : Nat) (p3 : Option Addr) (c3 : Nat) (kb : ByteArray) (clb : Int) (sqb : Int) (pb1 : Option Addr) (nb1 : Nat) (cb1 : Nat) (goneb : Bool) (pb2 : Option Addr) (cb2 : Nat) (pb3 : Option Addr) (cb3 : Nat) (ds : List Int) (vs : List Int) (ss : List Int) (dsb : List Int) (vsb : List Int) (ssb : List Int) (B0 : Nat) : List (Value → World → Prop) := [
  Eq1 (.agg #[.string k, .int .i64 cl, .int .i64 sq, .slice p1 n1 c1, .bool gone, .slice p2 vs.length c2, .slice p3 ss.length c3]),
  LrP k cl sq n1 gone ds vs ss,
  Eq1 (.agg #[.string kb, .int .i64 clb, .int .i64 sqb, .slice pb1 nb1 cb1, .bool goneb, .slice pb2 vsb.length cb2, .slice pb3 ssb.length cb3]),
  LrP kb clb sqb nb1 goneb dsb vsb ssb,
  NewB B0 25 #[.string ⟨#[]⟩, .int .i64 0, .int .i64 0, .slice none 0 0, .bool false, .slice none 0 0, .slice none 0 0],
  NewB B0 25 #[.string ⟨#[]⟩, .int .i64 0, .int .i64 0, .slice none 0 0, .bool false, .slice none 0 0, .slice none 0 0]]
theorem rl5S (k : ByteArray) (cl : Int) (sq : Int) (p1 : Option Addr) (n1 : Nat) (c1 : Nat) (gone : Bool) (p2 : Option Addr) (c2 : Nat) (p3 : Option Addr) (c3 : Nat) (kb : ByteArray) (clb : Int) (sqb : Int) (pb1 : Option Addr) (nb1 : Nat) (cb1 : Nat) (goneb : Bool) (pb2 : Option Addr) (cb2 : Nat) (pb3 : Option Addr) (cb3 : Nat) (ds : List Int) (vs : List Int) (ss : List Int) (dsb : List Int) (vsb : List Int) (ssb : List Int) (B0 : Nat) : ∀ j x' q q', (rl5L k cl sq p1 n1 c1 gone p2 c2 p3 c3 kb clb sqb pb1 nb1 cb1 goneb pb2 cb2 pb3 cb3 ds vs ss dsb vsb ssb B0).getD j (fun _ _ => True) x' q → Below q.heap.size q q' → (rl5L k cl sq p1 n1 c1 gone p2 c2 p3 c3 kb clb sqb pb1 nb1 cb1 goneb pb2 cb2 pb3 cb3 ds vs ss dsb vsb ssb B0).getD j (fun _ _ => True) x' q' := by
  refine sta_all _ ?_
  simp only [rl5L, List.mem_cons, forall_eq_or_imp, List.not_mem_nil, false_implies, implies_true, and_true]
  exact ⟨sta_eq _, sta_lrP _ _ _ _ _ _ _ _, sta_eq _, sta_lrP _ _ _ _ _ _ _ _, sta_new _ _ _, sta_new _ _ _⟩
theorem rl5O (k : ByteArray) (cl : Int) (sq : Int) (p1 : Option Addr) (n1 : Nat) (c1 : Nat) (gone : Bool) (p2 : Option Addr) (c2 : Nat) (p3 : Option Addr) (c3 : Nat) (kb : ByteArray) (clb : Int) (sqb : Int) (pb1 : Option Addr) (nb1 : Nat) (cb1 : Nat) (goneb : Bool) (pb2 : Option Addr) (cb2 : Nat) (pb3 : Option Addr) (cb3 : Nat) (ds : List Int) (vs : List Int) (ss : List Int) (dsb : List Int) (vsb : List Int) (ssb : List Int) (B0 : Nat) : ∀ j x' q, (fun j => j == 4 || j == 5) j = true → (rl5L k cl sq p1 n1 c1 gone p2 c2 p3 c3 kb clb sqb pb1 nb1 cb1 goneb pb2 cb2 pb3 cb3 ds vs ss dsb vsb ssb B0).getD j (fun _ _ => True) x' q → ∀ g, x' = .pointer (some ⟨g, 0, none⟩) → g < q.heap.size := by
  intro j x' q hj hv g e
  have hj' : j = 4 ∨ j = 5 := by simpa using hj
  rcases hj' with rfl | rfl
  all_goals exact new_lt hv e
set_option maxRecDepth 20000 in
set_option maxHeartbeats 20000000 in
theorem recordTells_c (k : ByteArray) (cl sq : Int) (p1 : Option Addr) (n1 c1 : Nat) (gone : Bool) (p2 : Option Addr) (n2 c2 : Nat) (p3 : Option Addr) (n3 c3 : Nat) (kb : ByteArray) (clb sqb : Int) (pb1 : Option Addr) (nb1 cb1 : Nat) (goneb : Bool) (pb2 : Option Addr) (nb2 cb2 : Nat) (pb3 : Option Addr) (nb3 cb3 : Nat) (ds vs ss dsb vsb ssb : List Int) (hn2 : n2 = vs.length) (hn3 : n3 = ss.length) (hnb2 : nb2 = vsb.length) (hnb3 : nb3 = ssb.length) (w : World) (hD : DotsL w p1 n1 ds) (hV : BytesL w p2 vs) (hS : BytesL w p3 ss) (hDb : DotsL w pb1 nb1 dsb) (hVb : BytesL w pb2 vsb) (hSb : BytesL w pb3 ssb) :
    Calls Tryz.prog 3 #[.agg #[.string k, .int .i64 cl, .int .i64 sq, .slice p1 n1 c1, .bool gone, .slice p2 n2 c2, .slice p3 n3 c3], .agg #[.string kb, .int .i64 clb, .int .i64 sqb, .slice pb1 nb1 cb1, .bool goneb, .slice pb2 nb2 cb2, .slice pb3 nb3 cb3]] w fun e w' => e = .returned (.bool true) ∧ Below w.heap.size w w' := by
  subst hn2 hn3 hnb2 hnb3
  have hl1 := fun w' hb => fun h1 h2 h3 => lentRec_c k cl sq p1 n1 c1 gone p2 vs.length c2 p3 ss.length c3 ds vs ss h1 rfl h2 rfl h3 w' (hD.below (w := w) (w' := w') hb) (hV.below hb) (hS.below hb)
  have hl2 := fun w' hb => fun h1 h2 h3 => lentRec_c kb clb sqb pb1 nb1 cb1 goneb pb2 vsb.length cb2 pb3 ssb.length cb3 dsb vsb ssb h1 rfl h2 rfl h3 w' (hDb.below (w := w) (w' := w') hb) (hVb.below hb) (hSb.below hb)
  replace hl1 := Lib.hid hl1
  replace hl2 := Lib.hid hl2
  replace hD := Lib.hid hD
  replace hV := Lib.hid hV
  replace hS := Lib.hid hS
  replace hDb := Lib.hid hDb
  replace hVb := Lib.hid hVb
  replace hSb := Lib.hid hSb
  go_enter Tryz.func3, Tryz.ntmps3
  go_wp2_with fail
  refine calls_at (fun W0 hW => ?_)
  have hA : Blk W0 w.heap.size 25 #[.string k, .int .i64 cl, .int .i64 sq, .slice p1 n1 c1, .bool gone, .slice p2 vs.length c2, .slice p3 ss.length c3] := by rw [hW]; exact (Blk.new _ _ _).alloc _
  have hB : Blk W0 (w.heap.size + 1) 25 #[.string kb, .int .i64 clb, .int .i64 sqb, .slice pb1 nb1 cb1, .bool goneb, .slice pb2 vsb.length cb2, .slice pb3 ssb.length cb3] := by rw [hW]; exact blk_at (by simp) (Blk.new _ _ _)
  have hb0 : Below w.heap.size w W0 := by rw [hW]; go_grown
  clear hW
  obtain ⟨GA, hGA⟩ : ∃ GA, GA = w.heap.size := ⟨_, rfl⟩
  obtain ⟨GB, hGB⟩ : ∃ GB, GB = w.heap.size + 1 := ⟨_, rfl⟩
  rw [← hGB] at hB ⊢
  rw [← hGA] at hA ⊢
  clear hGA hGB
  refine (awake_c _).mono ?_
  rintro e w1 ⟨rfl, hb⟩
  replace hA := hA.below hb
  replace hB := hB.below hb
  replace hb0 := hb0.trans (hb.mono hb0.size)
  clear hb
  obtain ⟨y0, y1, y2, y3, y4, y5, y6⟩ := blk7 hA
  obtain ⟨z0, z1, z2, z3, z4, z5, z6⟩ := blk7 hB
  go_wp2_with fail
  clear y0 y1 y2 y3 y4 y5 y6 z0 z1 z2 z3 z4 z5 z6
  refine (great_c k cl sq p1 n1 c1 gone p2 vs.length c2 p3 ss.length c3 _).mono ?_
  rintro e w2 ⟨rfl, hb⟩
  replace hA := hA.below hb
  replace hB := hB.below hb
  replace hb0 := hb0.trans (hb.mono hb0.size)
  clear hb
  obtain ⟨y0, y1, y2, y3, y4, y5, y6⟩ := blk7 hA
  obtain ⟨z0, z1, z2, z3, z4, z5, z6⟩ := blk7 hB
  cases hga : greatB k.size n1 vs.length ss.length
  · skip
    go_wp2_with fail
    clear y0 y1 y2 y3 y4 y5 y6 z0 z1 z2 z3 z4 z5 z6
    refine (great_c kb clb sqb pb1 nb1 cb1 goneb pb2 vsb.length cb2 pb3 ssb.length cb3 _).mono ?_
    rintro e w3 ⟨rfl, hb⟩
    replace hA := hA.below hb
    replace hB := hB.below hb
    replace hb0 := hb0.trans (hb.mono hb0.size)
    clear hb
    obtain ⟨y0, y1, y2, y3, y4, y5, y6⟩ := blk7 hA
    obtain ⟨z0, z1, z2, z3, z4, z5, z6⟩ := blk7 hB
    cases hgb : greatB kb.size nb1 vsb.length ssb.length
    · skip
      have hbd := great_no hga
      have hbd2 := great_no hgb
      have hl1' := fun w' hb => hl1.out w' hb (by omega) (by omega) (by omega)
      have hl2' := fun w' hb => hl2.out w' hb (by omega) (by omega) (by omega)
      replace hl1 := Lib.hid hl1'
      replace hl2 := Lib.hid hl2'
      clear hl1' hl2' hga hgb y0 y1 y2 y3 y4 y5 y6 z0 z1 z2 z3 z4 z5 z6
      replace hbd := Lib.hid hbd
      replace hbd2 := Lib.hid hbd2
      have LO3 := Lib.hid hb0.size
      go_wp2
      refine wp_region_grow2 6 (fun k => (Nat.ble 5 k && Nat.ble k 6) || (Nat.ble 21 k && Nat.ble k 24)) _ [] (fun j x' q => (rl5L k cl sq p1 n1 c1 gone p2 c2 p3 c3 kb clb sqb pb1 nb1 cb1 goneb pb2 cb2 pb3 cb3 ds vs ss dsb vsb ssb w3.heap.size).getD j (fun _ _ => True) x' q) (fun j => j == 4 || j == 5) (fun f => #[.agg #[.string k, .int .i64 cl, .int .i64 sq, .slice p1 n1 c1, .bool gone, .slice p2 vs.length c2, .slice p3 ss.length c3], .agg #[.string kb, .int .i64 clb, .int .i64 sqb, .slice pb1 nb1 cb1, .bool goneb, .slice pb2 vsb.length cb2, .slice pb3 ssb.length cb3], .pointer (some ⟨GA, 0, none⟩), .pointer (some ⟨GB, 0, none⟩), .bool false, f 5, f 6, undef, undef, undef, undef, undef, undef, .bool true, .bool false, .agg #[.string k, .int .i64 cl, .int .i64 sq, .slice p1 n1 c1, .bool gone, .slice p2 vs.length c2, .slice p3 ss.length c3], .bool false, .bool false, .agg #[.string kb, .int .i64 clb, .int .i64 sqb, .slice pb1 nb1 cb1, .bool goneb, .slice pb2 vsb.length cb2, .slice pb3 ssb.length cb3], .bool false, .bool false, f 21, f 22, f 23, f 24, undef, undef, undef, undef, undef, undef, undef, undef, undef, undef, undef, undef, undef, undef, undef, undef, undef, undef, undef, undef, undef, undef, undef, undef, undef, undef, undef, undef, undef, undef, undef, undef, undef, undef, undef, undef, undef, undef, undef, undef, undef, undef, undef, undef, undef, undef, undef, undef, undef, undef, undef, undef, undef, undef, undef, undef, undef, undef, undef, undef, undef, undef, undef, undef, undef, undef, undef, undef, undef, undef]) (fun f => rfl) (by kernel_rfl) (by kernel_rfl) (by kernel_rfl) (by kernel_rfl) (by kernel_rfl) (rl5S _ _ _ _ _ _ _ _ _ _ _ _ _ _ _ _ _ _ _ _ _ _ _ _ _ _ _ _ _) (rl5O _ _ _ _ _ _ _ _ _ _ _ _ _ _ _ _ _ _ _ _ _ _ _ _ _ _ _ _ _) ?_ ?_
      · refine steps2_cons ?_ ?_
        · intro f w1 hb hd Q hK
          clear hd
          have hK := Lib.hid hK
          obtain ⟨c0, c1, c2, c3, c4, c5, c6⟩ := blk7 (hA.below hb)
          go_wp2
          exact hK.out _ _ rfl (Below.refl _ _) (fun h => by cases h)
        refine steps2_cons ?_ ?_
        · intro f w1 hb hd Q hK
          have e21 : f 21 = .agg #[.string k, .int .i64 cl, .int .i64 sq, .slice p1 n1 c1, .bool gone, .slice p2 vs.length c2, .slice p3 ss.length c3] := hd.1 rfl
          clear hd
          simp only [e21] at hK
          have hK := Lib.hid hK
          go_wp2_with fail
          refine (hl1.out _ (hb0.trans (hb.mono hb0.size))).mono ?_
          rintro e w2 ⟨g1, d1, g2, d2, g3, d3, rfl, k1, k2, k3, hq1, hq2, hq3, hb2⟩
          replace k1 := Lib.hid k1
          replace k2 := Lib.hid k2
          replace k3 := Lib.hid k3
          go_wp2
          exact hK.out _ _ ⟨g1, d1, g2, d2, g3, d3, rfl, k1.out, k2.out, k3.out, hq1, hq2, hq3⟩ hb2 (fun h => by cases h)
        refine steps2_cons ?_ ?_
        · intro f w1 hb hd Q hK
          clear hd
          have hK := Lib.hid hK
          obtain ⟨c0, c1, c2, c3, c4, c5, c6⟩ := blk7 (hB.below hb)
          go_wp2
          exact hK.out _ _ rfl (Below.refl _ _) (fun h => by cases h)
        refine steps2_cons ?_ ?_
        · intro f w1 hb hd Q hK
          have e23 : f 23 = .agg #[.string kb, .int .i64 clb, .int .i64 sqb, .slice pb1 nb1 cb1, .bool goneb, .slice pb2 vsb.length cb2, .slice pb3 ssb.length cb3] := hd.1 rfl
          clear hd
          simp only [e23] at hK
          have hK := Lib.hid hK
          go_wp2_with fail
          refine (hl2.out _ (hb0.trans (hb.mono hb0.size))).mono ?_
          rintro e w2 ⟨g1, d1, g2, d2, g3, d3, rfl, k1, k2, k3, hq1, hq2, hq3, hb2⟩
          replace k1 := Lib.hid k1
          replace k2 := Lib.hid k2
          replace k3 := Lib.hid k3
          go_wp2
          exact hK.out _ _ ⟨g1, d1, g2, d2, g3, d3, rfl, k1.out, k2.out, k3.out, hq1, hq2, hq3⟩ hb2 (fun h => by cases h)
        refine steps2_cons ?_ ?_
        · intro f w1 hb hd Q hK
          clear hd
          have hK := Lib.hid hK
          have hsz := hb.size
          go_wp2
          exact hK.out _ _ ⟨_, rfl, hsz, Blk.new _ _ _⟩ ((Below.refl _ _).alloc (Nat.le_refl _) _) (fun _ => ⟨_, rfl, Nat.le_refl _⟩)
        refine steps2_cons ?_ ?_
        · intro f w1 hb hd Q hK
          clear hd
          have hK := Lib.hid hK
          have hsz := hb.size
          go_wp2
          exact hK.out _ _ ⟨_, rfl, hsz, Blk.new _ _ _⟩ ((Below.refl _ _).alloc (Nat.le_refl _) _) (fun _ => ⟨_, rfl, Nat.le_refl _⟩)
        trivial
      · intro ff y1 hb hf hne
        obtain ⟨g5, d5, lo5, bk5⟩ : NewB w3.heap.size 25 #[.string ⟨#[]⟩, .int .i64 0, .int .i64 0, .slice none 0 0, .bool false, .slice none 0 0, .slice none 0 0] (ff 5) y1 := hf 4 _ _ (by decide) rfl rfl
        obtain ⟨g6, d6, lo6, bk6⟩ : NewB w3.heap.size 25 #[.string ⟨#[]⟩, .int .i64 0, .int .i64 0, .slice none 0 0, .bool false, .slice none 0 0, .slice none 0 0] (ff 6) y1 := hf 5 _ _ (by decide) rfl rfl
        obtain ⟨x1, d1, x2, d2, x3, d3, h22, Kx1, Kx2, Kx3, Hx1, Hx2, Hx3⟩ : LrP k cl sq n1 gone ds vs ss (ff 22) y1 := hf 1 _ _ (by decide) rfl rfl
        obtain ⟨z1, e1, z2, e2, z3, e3, h24, Kz1, Kz2, Kz3, Hz1, Hz2, Hz3⟩ : LrP kb clb sqb nb1 goneb dsb vsb ssb (ff 24) y1 := hf 3 _ _ (by decide) rfl rfl
        have hne' : g5 ≠ g6 := by
          have := hne 4 5 _ _ _ _ (by decide) (by decide) (by decide) rfl rfl rfl rfl rfl rfl
          rw [d5, d6] at this
          exact fun h => this (by rw [h])
        clear hf hne
        simp only [d5, d6, h22, h24]
        clear d5 d6 h22 h24
        have OHx15 := lentD_ne bk5 Hx1
        have OHx25 := lentB_ne bk5 Hx2
        have OHx35 := lentB_ne bk5 Hx3
        have OHz15 := lentD_ne bk5 Hz1
        have OHz25 := lentB_ne bk5 Hz2
        have OHz35 := lentB_ne bk5 Hz3
        have OHx16 := lentD_ne bk6 Hx1
        have OHx26 := lentB_ne bk6 Hx2
        have OHx36 := lentB_ne bk6 Hx3
        have OHz16 := lentD_ne bk6 Hz1
        have OHz26 := lentB_ne bk6 Hz2
        have OHz36 := lentB_ne bk6 Hz3
        have hltA := hA.lt
        have hltB := hB.lt
        replace hA := hA.below hb
        replace hB := hB.below hb
        replace hb0 := hb0.trans (hb.mono hb0.size)
        have HLO := Lib.hid hb.size
        have hA5 : GA ≠ g5 := by omega
        have hA6 : GA ≠ g6 := by omega
        have hB5 : GB ≠ g5 := by omega
        have hB6 : GB ≠ g6 := by omega
        refine stRec rfl rfl rfl rfl bk5 rfl (by kernel_rfl) ?_
        intro w5 hX hgr hsz
        replace bk6 := bk6.grown hgr (fun h => hne' (by injection h with h; exact h.symm))
        replace hA := hA.grown hgr (fun h => hA5 (by injection h))
        replace hB := hB.grown hgr (fun h => hB5 (by injection h))
        replace Hx1 := Hx1.grown hgr OHx15
        replace Hx2 := Hx2.grown hgr OHx25
        replace Hx3 := Hx3.grown hgr OHx35
        replace Hz1 := Hz1.grown hgr OHz15
        replace Hz2 := Hz2.grown hgr OHz25
        replace Hz3 := Hz3.grown hgr OHz35
        replace hb0 := hb0.grown hgr hb0.size (fun k hk => by injection hk with hk; have := lo5; have := LO3.out; omega)
        clear hgr hsz hb
        refine stRec rfl rfl rfl rfl bk6 rfl (by kernel_rfl) ?_
        intro w6 hY hgr hsz
        replace hX := hX.grown hgr (fun h => hne' (by injection h))
        replace hA := hA.grown hgr (fun h => hA6 (by injection h))
        replace hB := hB.grown hgr (fun h => hB6 (by injection h))
        replace Hx1 := Hx1.grown hgr OHx16
        replace Hx2 := Hx2.grown hgr OHx26
        replace Hx3 := Hx3.grown hgr OHx36
        replace Hz1 := Hz1.grown hgr OHz16
        replace Hz2 := Hz2.grown hgr OHz26
        replace Hz3 := Hz3.grown hgr OHz36
        replace hb0 := hb0.grown hgr hb0.size (fun k hk => by injection hk with hk; have := lo6; have := LO3.out; omega)
        clear hgr hsz bk5 bk6 lo5 lo6 hltA hltB LO3 HLO hA5 hA6 hB5 hB6 hne' OHx15 OHx25 OHx35 OHz15 OHz25 OHz35 OHx16 OHx26 OHx36 OHz16 OHz26 OHz36
        refine wpList_nil ?_
        have ldA := hD.out.1
        have ldB := hDb.out.1
        have q1 := hbd.out
        have q2 := hbd2.out
        have ctx := fun w' hb => recText_o k cl sq (some ⟨x1, 0, none⟩) n1 d1 gone (some ⟨x2, 0, none⟩) vs.length d2 (some ⟨x3, 0, none⟩) ss.length d3 ds vs (by omega) rfl w' ((Hx1.front ldA).below (w := w6) (w' := w') hb) (Hx2.front.below hb)
        have cta := fun w' hb => rtext_o k cl sq p1 n1 c1 gone p2 vs.length c2 p3 ss.length c3 ds vs (by omega) rfl w' ((hD.out.below hb0).below (w := w6) (w' := w') hb) ((hV.out.below hb0).below hb)
        have cpx := fun w' hb => put_c k cl sq (some ⟨x1, 0, none⟩) n1 d1 gone (some ⟨x2, 0, none⟩) vs.length d2 (some ⟨x3, 0, none⟩) ss.length d3 ds vs ss (by omega) rfl rfl w' ((Hx1.front ldA).below (w := w6) (w' := w') hb) (Hx2.front.below hb) (Hx3.front.below hb)
        have cpa := fun w' hb => rput_c k cl sq p1 n1 c1 gone p2 vs.length c2 p3 ss.length c3 ds vs ss (by omega) rfl rfl w' ((hD.out.below hb0).below (w := w6) (w' := w') hb) ((hV.out.below hb0).below hb) ((hS.out.below hb0).below hb)
        have crx := fun w' hb => recRight_c k cl sq (some ⟨x1, 0, none⟩) n1 d1 gone (some ⟨x2, 0, none⟩) vs.length d2 (some ⟨x3, 0, none⟩) ss.length d3 ds (by omega) w' ((Hx1.front ldA).below (w := w6) (w' := w') hb)
        have cra := fun w' hb => rright8_c k cl sq p1 n1 c1 gone p2 vs.length c2 p3 ss.length c3 ds (by omega) w' ((hD.out.below hb0).below (w := w6) (w' := w') hb)
        have co1 := fun w' hb => over_c k cl sq (some ⟨x1, 0, none⟩) n1 d1 gone (some ⟨x2, 0, none⟩) vs.length d2 (some ⟨x3, 0, none⟩) ss.length d3 kb clb sqb (some ⟨z1, 0, none⟩) nb1 e1 goneb (some ⟨z2, 0, none⟩) vsb.length e2 (some ⟨z3, 0, none⟩) ssb.length e3 ds dsb (by omega) (by omega) w' ((Hx1.front ldA).below (w := w6) (w' := w') hb) ((Hz1.front ldB).below hb)
        have co2 := fun w' hb => rover_c k cl sq p1 n1 c1 gone p2 vs.length c2 p3 ss.length c3 kb clb sqb pb1 nb1 cb1 goneb pb2 vsb.length cb2 pb3 ssb.length cb3 ds dsb (by omega) (by omega) w' ((hD.out.below hb0).below (w := w6) (w' := w') hb) ((hDb.out.below hb0).below hb)
        have co3 := fun w' hb => over_c kb clb sqb (some ⟨z1, 0, none⟩) nb1 e1 goneb (some ⟨z2, 0, none⟩) vsb.length e2 (some ⟨z3, 0, none⟩) ssb.length e3 k cl sq (some ⟨x1, 0, none⟩) n1 d1 gone (some ⟨x2, 0, none⟩) vs.length d2 (some ⟨x3, 0, none⟩) ss.length d3 dsb ds (by omega) (by omega) w' ((Hz1.front ldB).below (w := w6) (w' := w') hb) ((Hx1.front ldA).below hb)
        have co4 := fun w' hb => rover_c kb clb sqb pb1 nb1 cb1 goneb pb2 vsb.length cb2 pb3 ssb.length cb3 k cl sq p1 n1 c1 gone p2 vs.length c2 p3 ss.length c3 dsb ds (by omega) (by omega) w' ((hDb.out.below hb0).below (w := w6) (w' := w') hb) ((hD.out.below hb0).below hb)
        simp only [over_eq] at co2 co4
        have ck1 := fun w' hb => keptRec_c k cl sq x1 x2 x3 n1 vs.length ss.length d1 d2 d3 gone p1 p2 p3 c1 c2 c3 ds vs ss (by omega) rfl (by omega) rfl (by omega) Kx1 Kx2 Kx3 w' ((hD.out.below hb0).below (w := w6) (w' := w') hb) ((hV.out.below hb0).below hb) ((hS.out.below hb0).below hb) (Hx1.below hb) (Hx2.below hb) (Hx3.below hb)
        have ck2 := fun w' hb => keptRec_c kb clb sqb z1 z2 z3 nb1 vsb.length ssb.length e1 e2 e3 goneb pb1 pb2 pb3 cb1 cb2 cb3 dsb vsb ssb (by omega) rfl (by omega) rfl (by omega) Kz1 Kz2 Kz3 w' ((hDb.out.below hb0).below (w := w6) (w' := w') hb) ((hVb.out.below hb0).below hb) ((hSb.out.below hb0).below hb) (Hz1.below hb) (Hz2.below hb) (Hz3.below hb)
        have ltx : (txtL k cl sq n1 ds gone vs).length ≤ 50000 := txt_le (by omega) (by omega) (by omega)
        have lpx : (putL k cl sq n1 ds gone vs ss).length ≤ 100000 := put_le (by omega) (by omega) (by omega) (by omega)
        clear ldA ldB q1 q2 hbd hbd2 hD hV hS hDb hVb hSb Hx1 Hx2 Hx3 Hz1 Hz2 Hz3 Kx1 Kx2 Kx3 Kz1 Kz2 Kz3
        generalize txtL k cl sq n1 ds gone vs = TX at *
        generalize putL k cl sq n1 ds gone vs ss = PX at *
        generalize putE k cl sq n1 ds gone vs ss = er at *
        generalize rightR k.size cl sq n1 ds gone vs.length ss.length = RR at *
        generalize overB k cl sq n1 ds gone vs.length kb clb sqb nb1 dsb goneb vsb.length = O1 at *
        generalize overB kb clb sqb nb1 dsb goneb vsb.length k cl sq n1 ds gone vs.length = O2 at *
        replace ctx := Lib.hid ctx
        replace cta := Lib.hid cta
        replace cpx := Lib.hid cpx
        replace cpa := Lib.hid cpa
        replace crx := Lib.hid crx
        replace cra := Lib.hid cra
        replace co1 := Lib.hid co1
        replace co2 := Lib.hid co2
        replace co3 := Lib.hid co3
        replace co4 := Lib.hid co4
        replace ck1 := Lib.hid ck1
        replace ck2 := Lib.hid ck2
        replace ltx := Lib.hid ltx
        replace lpx := Lib.hid lpx
        have hbX := Below.refl w6.heap.size w6
        replace hbX := hbX.drew
        replace hX := hX.drew
        go_wp2
        go_region_held3 (fun w' => w'.cell? ⟨g5, 0, none⟩ = some (.string k) ∧ w'.cell? ⟨g5, 1, none⟩ = some (.int .i64 cl) ∧ w'.cell? ⟨g5, 2, none⟩ = some (.int .i64 sq) ∧ w'.cell? ⟨g5, 3, none⟩ = some (.slice (some ⟨x1, 0, none⟩) n1 d1) ∧ w'.cell? ⟨g5, 4, none⟩ = some (.bool gone) ∧ w'.cell? ⟨g5, 5, none⟩ = some (.slice (some ⟨x2, 0, none⟩) vs.length d2) ∧ w'.cell? ⟨g5, 6, none⟩ = some (.slice (some ⟨x3, 0, none⟩) ss.length d3)) (first | exact blk7 hX8 | exact blk7 hX7 | exact blk7 hX) (first | (go_at_call 7; refine (ctx.out _ hbX).mono ?_; rintro o7 w7 ⟨v7, m7, rfl, ho7, hb7⟩; obtain ⟨t7, s7, rfl, hm7, -⟩ := ownB_form ho7; replace hm7 := Lib.hid hm7; replace ho7 := Lib.hid ho7; have hX7 := hX.below hb7; have hbX7 := hbX.trans (hb7.mono hbX.size); clear hX hbX) | (go_at_call 7; refine (ctx.out _ hbX7).mono ?_; rintro o8 w8 ⟨v8, m8, rfl, ho8, hb8⟩; obtain ⟨t8, s8, rfl, hm8, -⟩ := ownB_form ho8; replace hm8 := Lib.hid hm8; replace ho8 := Lib.hid ho8; have hX8 := hX7.below hb8; have hbX8 := hbX7.trans (hb8.mono hbX7.size); clear hX7 hbX7))
        replace hA := hA.below hbX8
        replace hB := hB.below hbX8
        replace hY := hY.below hbX8
        have hX := hX8
        have hbX := hbX8
        have lo7 := (show w6.heap.size ≤ w6.drew.heap.size from Nat.le_refl _)
        have LB := Lib.hid hb0.size
        replace hb0 := hb0.trans (hbX8.mono hb0.size)
        have LW := Lib.hid hbX8.size
        have L78 := Lib.hid (Nat.le_trans hb7.size (Nat.le_refl w7.heap.size))
        have l7 := Lib.hid (fun b h => own_lt ho7.out b h)
        have l8 := Lib.hid (fun b h => own_lt ho8.out b h)
        replace ho7 := Lib.hid (below_kept ho7.out hb8)
        clear hX8 hbX8 hb7 lo7
        have hb78 := Lib.hid hb8.size
        clear hb8
        obtain ⟨y0, y1, y2, y3, y4, y5, y6⟩ := blk7 hX
        go_wp2_with fail
        refine (cpx.out _ hbX).mono ?_
        rintro o9 w9 ⟨v9, m9, rfl, ho9, hb9⟩
        obtain ⟨t9, s9, rfl, hm9, -⟩ := ownB_form ho9
        replace hm9 := Lib.hid hm9
        replace ho9 := Lib.hid ho9
        clear y0 y1 y2 y3 y4 y5 y6
        replace ho7 := Lib.hid (below_kept ho7.out hb9)
        replace ho8 := Lib.hid (below_kept ho8.out hb9)
        replace hA := hA.below hb9
        replace hB := hB.below hb9
        replace hX := hX.below hb9
        replace hY := hY.below hb9
        replace hbX := hbX.trans (hb9.mono hbX.size)
        replace hb0 := hb0.trans (hb9.mono hb0.size)
        clear hb9
        obtain ⟨y0, y1, y2, y3, y4, y5, y6⟩ := blk7 hA
        go_wp2_with fail
        refine (cpa.out _ hbX).mono ?_
        rintro oa wa ⟨va, ma, rfl, hoa, hba⟩
        obtain ⟨ta, sa, rfl, hma, hTa⟩ := ownB_form hoa
        replace hma := Lib.hid hma
        replace hTa := Lib.hid hTa
        clear y0 y1 y2 y3 y4 y5 y6 hoa
        replace ho7 := Lib.hid (below_kept ho7.out hba)
        replace ho8 := Lib.hid (below_kept ho8.out hba)
        replace ho9 := Lib.hid (below_kept ho9.out hba)
        replace hA := hA.below hba
        replace hB := hB.below hba
        replace hX := hX.below hba
        replace hY := hY.below hba
        replace hbX := hbX.trans (hba.mono hbX.size)
        replace hb0 := hb0.trans (hba.mono hb0.size)
        clear hba
        go_wp2
        have hT7 := own_bytes ho7.out
        have hT9 := own_bytes ho9.out
        have cs1 := fun w' (hb : Below wa.heap.size wa w') => fun tb mb sb (hm : mb = TX.length) hT => sameBytes_c t7 tb m7 s7 mb sb TX TX hm7.out hm (by have := hm7.out; have := ltx.out; omega) (by have := ltx.out; omega) w' (hT7.below hb) hT
        have cs2 := fun w' (hb : Below wa.heap.size wa w') => sameBytes_c t9 ta m9 s9 ma sa PX PX hm9.out hma.out (by have := hm9.out; have := lpx.out; omega) (by have := hma.out; have := lpx.out; omega) w' (hT9.below hb) (hTa.out.below hb)
        rw [eqL_self] at cs2
        simp only [eqL_self] at cs1
        replace cs1 := Lib.hid cs1
        replace cs2 := Lib.hid cs2
        have hSf : ∀ w', Below wa.heap.size wa w' → (fun w' => (w'.cell? ⟨GA, 0, none⟩ = some (.string k) ∧ w'.cell? ⟨GA, 1, none⟩ = some (.int .i64 cl) ∧ w'.cell? ⟨GA, 2, none⟩ = some (.int .i64 sq) ∧ w'.cell? ⟨GA, 3, none⟩ = some (.slice p1 n1 c1) ∧ w'.cell? ⟨GA, 4, none⟩ = some (.bool gone) ∧ w'.cell? ⟨GA, 5, none⟩ = some (.slice p2 vs.length c2) ∧ w'.cell? ⟨GA, 6, none⟩ = some (.slice p3 ss.length c3)) ∧ (w'.cell? ⟨GB, 0, none⟩ = some (.string kb) ∧ w'.cell? ⟨GB, 1, none⟩ = some (.int .i64 clb) ∧ w'.cell? ⟨GB, 2, none⟩ = some (.int .i64 sqb) ∧ w'.cell? ⟨GB, 3, none⟩ = some (.slice pb1 nb1 cb1) ∧ w'.cell? ⟨GB, 4, none⟩ = some (.bool goneb) ∧ w'.cell? ⟨GB, 5, none⟩ = some (.slice pb2 vsb.length cb2) ∧ w'.cell? ⟨GB, 6, none⟩ = some (.slice pb3 ssb.length cb3)) ∧ (w'.cell? ⟨g5, 0, none⟩ = some (.string k) ∧ w'.cell? ⟨g5, 1, none⟩ = some (.int .i64 cl) ∧ w'.cell? ⟨g5, 2, none⟩ = some (.int .i64 sq) ∧ w'.cell? ⟨g5, 3, none⟩ = some (.slice (some ⟨x1, 0, none⟩) n1 d1) ∧ w'.cell? ⟨g5, 4, none⟩ = some (.bool gone) ∧ w'.cell? ⟨g5, 5, none⟩ = some (.slice (some ⟨x2, 0, none⟩) vs.length d2) ∧ w'.cell? ⟨g5, 6, none⟩ = some (.slice (some ⟨x3, 0, none⟩) ss.length d3)) ∧ (w'.cell? ⟨g6, 0, none⟩ = some (.string kb) ∧ w'.cell? ⟨g6, 1, none⟩ = some (.int .i64 clb) ∧ w'.cell? ⟨g6, 2, none⟩ = some (.int .i64 sqb) ∧ w'.cell? ⟨g6, 3, none⟩ = some (.slice (some ⟨z1, 0, none⟩) nb1 e1) ∧ w'.cell? ⟨g6, 4, none⟩ = some (.bool goneb) ∧ w'.cell? ⟨g6, 5, none⟩ = some (.slice (some ⟨z2, 0, none⟩) vsb.length e2) ∧ w'.cell? ⟨g6, 6, none⟩ = some (.slice (some ⟨z3, 0, none⟩) ssb.length e3))) w' := fun w' hb => ⟨blk7 (hA.below hb), blk7 (hB.below hb), blk7 (hX.below hb), blk7 (hY.below hb)⟩
        replace hSf := Lib.hid hSf
        have c0 := (Below.refl wa.heap.size wa).drew
        have hRR1 : (RR == RR) = true := beq_self_eq_true _
        have hRR2 : (RR != RR) = false := by simp
        have hO1 : (O1 == O1) = true := beq_self_eq_true _
        have hO12 : (O1 != O1) = false := by simp
        have hO2 : (O2 == O2) = true := beq_self_eq_true _
        have hO22 : (O2 != O2) = false := by simp
        have her : (er == er) = true := beq_self_eq_true _
        clear hT7 hT9 hTa hma
        go_region_held3 (fun w' => (w'.cell? ⟨GA, 0, none⟩ = some (.string k) ∧ w'.cell? ⟨GA, 1, none⟩ = some (.int .i64 cl) ∧ w'.cell? ⟨GA, 2, none⟩ = some (.int .i64 sq) ∧ w'.cell? ⟨GA, 3, none⟩ = some (.slice p1 n1 c1) ∧ w'.cell? ⟨GA, 4, none⟩ = some (.bool gone) ∧ w'.cell? ⟨GA, 5, none⟩ = some (.slice p2 vs.length c2) ∧ w'.cell? ⟨GA, 6, none⟩ = some (.slice p3 ss.length c3)) ∧ (w'.cell? ⟨GB, 0, none⟩ = some (.string kb) ∧ w'.cell? ⟨GB, 1, none⟩ = some (.int .i64 clb) ∧ w'.cell? ⟨GB, 2, none⟩ = some (.int .i64 sqb) ∧ w'.cell? ⟨GB, 3, none⟩ = some (.slice pb1 nb1 cb1) ∧ w'.cell? ⟨GB, 4, none⟩ = some (.bool goneb) ∧ w'.cell? ⟨GB, 5, none⟩ = some (.slice pb2 vsb.length cb2) ∧ w'.cell? ⟨GB, 6, none⟩ = some (.slice pb3 ssb.length cb3)) ∧ (w'.cell? ⟨g5, 0, none⟩ = some (.string k) ∧ w'.cell? ⟨g5, 1, none⟩ = some (.int .i64 cl) ∧ w'.cell? ⟨g5, 2, none⟩ = some (.int .i64 sq) ∧ w'.cell? ⟨g5, 3, none⟩ = some (.slice (some ⟨x1, 0, none⟩) n1 d1) ∧ w'.cell? ⟨g5, 4, none⟩ = some (.bool gone) ∧ w'.cell? ⟨g5, 5, none⟩ = some (.slice (some ⟨x2, 0, none⟩) vs.length d2) ∧ w'.cell? ⟨g5, 6, none⟩ = some (.slice (some ⟨x3, 0, none⟩) ss.length d3)) ∧ (w'.cell? ⟨g6, 0, none⟩ = some (.string kb) ∧ w'.cell? ⟨g6, 1, none⟩ = some (.int .i64 clb) ∧ w'.cell? ⟨g6, 2, none⟩ = some (.int .i64 sqb) ∧ w'.cell? ⟨g6, 3, none⟩ = some (.slice (some ⟨z1, 0, none⟩) nb1 e1) ∧ w'.cell? ⟨g6, 4, none⟩ = some (.bool goneb) ∧ w'.cell? ⟨g6, 5, none⟩ = some (.slice (some ⟨z2, 0, none⟩) vsb.length e2) ∧ w'.cell? ⟨g6, 6, none⟩ = some (.slice (some ⟨z3, 0, none⟩) ssb.length e3))) (first | exact hSf.out _ c9 | exact hSf.out _ c8 | exact hSf.out _ c7 | exact hSf.out _ c6 | exact hSf.out _ c5 | exact hSf.out _ c4 | exact hSf.out _ c3 | exact hSf.out _ c2 | exact hSf.out _ c1 | exact hSf.out _ c0) (first | (go_at_call 10; refine (crx.out _ (hbX.trans (c0.mono hbX.size))).mono ?_; rintro o11 w11 ⟨rfl, hb1⟩; have c1 := c0.trans (hb1.mono c0.size); clear crx hb1) | (go_at_call 11; refine (cra.out _ (hbX.trans (c1.mono hbX.size))).mono ?_; rintro o12 w12 ⟨rfl, hb2⟩; have c2 := c1.trans (hb2.mono c1.size); clear cra hb2) | (go_at_call 13; refine (cta.out _ (hbX.trans (c2.mono hbX.size))).mono ?_; rintro o13 w13 ⟨vb, mb, rfl, hob, hb3⟩; have c3 := c2.trans (hb3.mono c2.size); obtain ⟨tb, sb, rfl, hmb, hTb⟩ := ownB_form hob; replace hmb := Lib.hid hmb; replace hTb := Lib.hid hTb; clear hob; clear cta hb3) | (go_at_call 12; refine (cs1.out _ c3 tb mb sb hmb.out hTb.out).mono ?_; rintro o14 w14 ⟨rfl, hb4⟩; have c4 := c3.trans (hb4.mono c3.size); clear cs1 hb4) | (go_at_call 12; refine (cs2.out _ c4).mono ?_; rintro o15 w15 ⟨rfl, hb5⟩; have c5 := c4.trans (hb5.mono c4.size); clear cs2 hb5) | (go_at_call 14; refine (co1.out _ (hbX.trans (c5.mono hbX.size))).mono ?_; rintro o16 w16 ⟨rfl, hb6⟩; have c6 := c5.trans (hb6.mono c5.size); clear co1 hb6) | (go_at_call 15; refine (co2.out _ (hbX.trans (c6.mono hbX.size))).mono ?_; rintro o17 w17 ⟨rfl, hb7⟩; have c7 := c6.trans (hb7.mono c6.size); clear co2 hb7) | (go_at_call 14; refine (co3.out _ (hbX.trans (c7.mono hbX.size))).mono ?_; rintro o18 w18 ⟨rfl, hb8⟩; have c8 := c7.trans (hb8.mono c7.size); clear co3 hb8) | (go_at_call 15; refine (co4.out _ (hbX.trans (c8.mono hbX.size))).mono ?_; rintro o19 w19 ⟨rfl, hb9⟩; have c9 := c8.trans (hb9.mono c8.size); clear co4 hb9))
        replace ho7 := Lib.hid (below_kept ho7.out c9)
        replace ho8 := Lib.hid (below_kept ho8.out c9)
        replace ho9 := Lib.hid (below_kept ho9.out c9)
        replace hA := hA.below c9
        replace hB := hB.below c9
        replace hX := hX.below c9
        replace hY := hY.below c9
        replace hbX := hbX.trans (c9.mono hbX.size)
        replace hb0 := hb0.trans (c9.mono hb0.size)
        clear c0 c1 c2 c3 c4 c5 c6 c7 c8 c9 hSf hTb hmb hRR1 hRR2 hO1 hO12 hO2 hO22 her
        obtain ⟨y0, y1, y2, y3, y4, y5, y6⟩ := blk7 hX
        obtain ⟨u0, u1, u2, u3, u4, u5, u6⟩ := blk7 hA
        go_wp2_with fail
        refine (ck1.out _ hbX).mono ?_
        rintro o20 w20 ⟨rfl, hb⟩
        clear y0 y1 y2 y3 y4 y5 y6 u0 u1 u2 u3 u4 u5 u6 ck1
        replace ho7 := Lib.hid (below_kept ho7.out hb)
        replace ho8 := Lib.hid (below_kept ho8.out hb)
        replace ho9 := Lib.hid (below_kept ho9.out hb)
        replace hA := hA.below hb
        replace hB := hB.below hb
        replace hX := hX.below hb
        replace hY := hY.below hb
        replace hbX := hbX.trans (hb.mono hbX.size)
        replace hb0 := hb0.trans (hb.mono hb0.size)
        clear hb
        obtain ⟨y0, y1, y2, y3, y4, y5, y6⟩ := blk7 hY
        obtain ⟨u0, u1, u2, u3, u4, u5, u6⟩ := blk7 hB
        go_wp2_with fail
        refine (ck2.out _ hbX).mono ?_
        rintro o21 w21 ⟨rfl, hb⟩
        clear y0 y1 y2 y3 y4 y5 y6 u0 u1 u2 u3 u4 u5 u6 ck2 hA hB hX hY
        replace ho7 := Lib.hid (below_kept ho7.out hb)
        replace ho8 := Lib.hid (below_kept ho8.out hb)
        replace ho9 := Lib.hid (below_kept ho9.out hb)
        replace hbX := hbX.trans (hb.mono hbX.size)
        replace hb0 := hb0.trans (hb.mono hb0.size)
        clear hb
        have hrw : Rws w.heap.size [.slice t7 m7 s7, .slice t8 m8 s8, .slice t9 m9 s9] w21 := rws3 (rowyB_own ho7.out (by have := ltx.out; omega)) (rowyB_own ho8.out (by have := ltx.out; omega)) (rowyB_own ho9.out (by have := lpx.out; omega)) LB.out L78.out hb78.out l7.out l8.out
        replace hrw := Lib.hid hrw
        go_wp2_with fail
        refine calls_at (fun W3 hW => ?_)
        have hQ : Blk W3 w21.heap.size 23 #[.slice t7 m7 s7, .slice t8 m8 s8, .slice t9 m9 s9] := by rw [hW]; exact Blk.new _ _ _
        have hb : Below w21.heap.size w21 W3 := by rw [hW]; exact (Below.refl _ _).alloc (Nat.le_refl _) _
        clear hW
        replace hb0 := hb0.trans (hb.mono hb0.size)
        replace hrw := hrw.out.below hb
        refine (apartBytes_c w.heap.size _ 3 3 _ (by decide) (by decide) rfl W3 (rowQ_blk hQ) hrw hb0.size).mono ?_
        rintro o22 w22 ⟨rfl, hb⟩
        replace hb0 := hb0.trans hb
        clear hb
        go_wp2
        go_returns
        exact ⟨rfl, hb0⟩
    · go_wp2
      go_returns
      exact ⟨rfl, hb0⟩
  · go_wp2
    go_returns
    exact ⟨rfl, hb0⟩
end Go.Proofs.YtiimojhdpmkeoaaGreat
