/- The walk of the reference's Text (buttressref08). -/
import Derived.Test.YtiimojhdpmkeoaaGreatRx
import Derived.Test.YtiimojhdpmkeoaaGreatRw
namespace Go.Proofs.YtiimojhdpmkeoaaGreat
open Go.RowKit
/-- rows of bytes, K of them, lie in a block of their own -/
def PaL (K : Nat) (ps : List (List Int)) : Value → World → Prop := fun v w => ∃ g, v = .slice (some ⟨g, 0, none⟩) K K ∧ PartsAt w g 0 ps
theorem sta_paL (K : Nat) (ps : List (List Int)) : Sta (PaL K ps) := fun _ _ _ ⟨g, h1, h2⟩ hb => ⟨g, h1, h2.below hb⟩
/-- a row of bytes of one's own -/
def OwL (B : Nat) (xs : List Int) : Value → World → Prop := fun v w => ∃ u n, v = u ∧ w.ownsRow B 5 1 u n (bL xs)
theorem sta_owL (B : Nat) (xs : List Int) : Sta (OwL B xs) := fun _ _ _ ⟨u, n, e, h⟩ hb => ⟨u, n, e, below_kept h hb⟩
theorem ownB_form {w : World} {B n : Nat} {v : Value} {xs : List Int} (h : w.ownsRow B 5 1 v n (bL xs)) : ∃ q c, v = .slice q n c ∧ n = xs.length ∧ BytesL w q xs := by
  have hl : n = xs.length := by have := h.1; rw [bL_len] at this; omega
  rcases h.2 with ⟨rfl, h0⟩ | ⟨g, cap, cur, rfl, h1, h2, h3, h4, h5, h6⟩
  · exact ⟨none, 0, by rw [h0], hl, fun hp => by omega⟩
  · refine ⟨_, cap, rfl, hl, fun _ => ⟨g, 0, rfl, (Array.getElem?_eq_some_iff.1 h2).1, fun j hj => ?_⟩⟩
    rw [Nat.zero_add, h.cellAt j (by omega)]
    simp [bL, hj]
theorem parts3 {w : World} {g : Nat} {q1 q2 q3 : Option Addr} {n1 n2 n3 c1 c2 c3 : Nat} {x1 x2 x3 : List Int} (h : Blk w g 23 #[.slice q1 n1 c1, .slice q2 n2 c2, .slice q3 n3 c3]) (e1 : n1 = x1.length) (e2 : n2 = x2.length) (e3 : n3 = x3.length) (h1 : BytesL w q1 x1) (h2 : BytesL w q2 x2) (h3 : BytesL w q3 x3) : PartsAt w g 0 [x1, x2, x3] :=
  ⟨h.lt, fun i hi => by
    have hi2 : i = 0 ∨ i = 1 ∨ i = 2 := by simp at hi; omega
    rcases hi2 with rfl | rfl | rfl
    · exact ⟨q1, n1, c1, h.cell 0, e1, h1⟩
    · exact ⟨q2, n2, c2, h.cell 1, e2, h2⟩
    · exact ⟨q3, n3, c3, h.cell 2, e3, h3⟩⟩
def rt3L (w : World) (k : ByteArray) (cl sq : Int) (p1 : Option Addr) (n1 c1 : Nat) : List (Value → World → Prop) := [
  SlL ([1]),
  Eq1 (.pointer (some ⟨w.heap.size, 0, none⟩)),
  Eq1 (.string k),
  SlL (keyL k),
  SlL (lenL (keyL k)),
  Eq1 (.pointer (some ⟨w.heap.size, 1, none⟩)),
  Eq1 (.int .i64 cl),
  SlL (numL cl),
  Eq1 (.pointer (some ⟨w.heap.size, 2, none⟩)),
  Eq1 (.int .i64 sq),
  SlL (numL sq),
  Eq1 (.pointer (some ⟨w.heap.size, 3, none⟩)),
  Eq1 (.slice p1 n1 c1),
  Eq1 (.int .i64 n1),
  SlL (numL (n1 : Nat)),
  PaL 5 ([[1], lenL (keyL k), numL cl, numL sq, numL (n1 : Nat)]),
  OwL w.heap.size (([[1], lenL (keyL k), numL cl, numL sq, numL (n1 : Nat)]).flatten),
  OwL w.heap.size (([[1], lenL (keyL k), numL cl, numL sq, numL (n1 : Nat)]).flatten)]
theorem rt3S (w : World) (k : ByteArray) (cl sq : Int) (p1 : Option Addr) (n1 c1 : Nat) : ∀ j x' q q', (rt3L w k cl sq p1 n1 c1).getD j (fun _ _ => True) x' q → Below q.heap.size q q' → (rt3L w k cl sq p1 n1 c1).getD j (fun _ _ => True) x' q' := by
  refine sta_all _ ?_
  simp only [rt3L, List.mem_cons, forall_eq_or_imp, List.not_mem_nil, false_implies, implies_true, and_true]
  exact ⟨sta_slL _, sta_eq _, sta_eq _, sta_slL _, sta_slL _, sta_eq _, sta_eq _, sta_slL _, sta_eq _, sta_eq _, sta_slL _, sta_eq _, sta_eq _, sta_eq _, sta_slL _, sta_paL _ _, sta_owL _ _, sta_owL _ _⟩
def rt7L (w : World) (T : List Int) (x y : Int) (g o n1 c1 m no co : Nat) (qo : Option Addr) : List (Value → World → Prop) := [
  Eq1 (.slice qo no co),
  Eq1 (.pointer (some ⟨w.heap.size, 3, none⟩)),
  Eq1 (.slice (some ⟨g, o, none⟩) n1 c1),
  Eq1 (.int .i64 m),
  Eq1 (.pointer (some ⟨g, o + m * 2, none⟩)),
  Eq1 (.pointer (some ⟨g, o + m * 2, none⟩)),
  Eq1 (.int .i64 x),
  SlL (numL x),
  Eq1 (.pointer (some ⟨w.heap.size, 3, none⟩)),
  Eq1 (.slice (some ⟨g, o, none⟩) n1 c1),
  Eq1 (.int .i64 m),
  Eq1 (.pointer (some ⟨g, o + m * 2, none⟩)),
  Eq1 (.pointer (some ⟨g, o + m * 2 + 1, none⟩)),
  Eq1 (.int .i64 y),
  SlL (numL y),
  PaL 3 ([T, numL x, numL y]),
  OwL w.heap.size (([T, numL x, numL y]).flatten)]
theorem rt7S (w : World) (T : List Int) (x y : Int) (g o n1 c1 m no co : Nat) (qo : Option Addr) : ∀ j x' q q', (rt7L w T x y g o n1 c1 m no co qo).getD j (fun _ _ => True) x' q → Below q.heap.size q q' → (rt7L w T x y g o n1 c1 m no co qo).getD j (fun _ _ => True) x' q' := by
  refine sta_all _ ?_
  simp only [rt7L, List.mem_cons, forall_eq_or_imp, List.not_mem_nil, false_implies, implies_true, and_true]
  exact ⟨sta_eq _, sta_eq _, sta_eq _, sta_eq _, sta_eq _, sta_eq _, sta_eq _, sta_slL _, sta_eq _, sta_eq _, sta_eq _, sta_eq _, sta_eq _, sta_eq _, sta_slL _, sta_paL _ _, sta_owL _ _⟩
set_option maxRecDepth 20000 in
set_option maxHeartbeats 8000000 in
theorem rtext_o (k : ByteArray) (cl sq : Int) (p1 : Option Addr) (n1 c1 : Nat) (gone : Bool) (p2 : Option Addr) (n2 c2 : Nat) (p3 : Option Addr) (n3 c3 : Nat) (ds vs : List Int) (hn1 : n1 ≤ 400000) (hn2 : n2 = vs.length) (w : World) (hD : DotsL w p1 n1 ds) (hV : BytesL w p2 vs) :
    Calls Tryz.prog 13 #[.agg #[.string k, .int .i64 cl, .int .i64 sq, .slice p1 n1 c1, .bool gone, .slice p2 n2 c2, .slice p3 n3 c3]] w (PostO (txtL k cl sq n1 ds gone vs) w) := by
  have hsh := fun w' hb => rshape_c k cl sq p1 n1 c1 gone p2 n2 c2 p3 n3 c3 ds (by omega) w' (hD.below (w := w) (w' := w') hb)
  have htt : shB k.size cl sq n1 ds gone n2 = true → txtL k cl sq n1 ds gone vs = textL k cl sq n1 ds gone vs := fun h => by unfold txtL; rw [← hn2, if_pos h]
  have htf : shB k.size cl sq n1 ds gone n2 = false → txtL k cl sq n1 ds gone vs = [] := fun h => by unfold txtL; rw [← hn2, h]; rfl
  replace hsh := Lib.hid hsh
  replace htt := Lib.hid htt
  replace htf := Lib.hid htf
  replace hD := Lib.hid hD
  replace hV := Lib.hid hV
  replace hn2 := Lib.hid hn2
  generalize txtL k cl sq n1 ds gone vs = TX at *
  go_enter Tryz.func13, Tryz.ntmps13
  go_wp2_with fail
  refine calls_at (fun W0 hW => ?_)
  have hG : Blk W0 w.heap.size 25 #[.string k, .int .i64 cl, .int .i64 sq, .slice p1 n1 c1, .bool gone, .slice p2 n2 c2, .slice p3 n3 c3] := by rw [hW]; exact Blk.new _ _ _
  have hb0 : Below w.heap.size w W0 := by rw [hW]; go_grown
  clear hW
  refine (hsh.out _ hb0).mono ?_
  rintro e w1 ⟨rfl, hb⟩
  replace hG := hG.below hb
  replace hb0 := hb0.trans (hb.mono hb0.size)
  clear hb hsh
  cases hs : shB k.size cl sq n1 ds gone n2
  · have ht := Lib.hid (htf.out hs)
    clear hs
    go_wp2
    go_returns
    exact ⟨.slice none 0 0, 0, rfl, by rw [ht.out]; exact ownB_nil, hb0⟩
  · have ht := htt.out hs
    obtain ⟨⟨_, hk⟩, h2, h3, h4, h5, h6⟩ := shB_true hs
    have hcl0 : 0 ≤ cl := by omega
    have hcl1 : cl < 4611686018427387904 := by omega
    have hsq0 : 0 ≤ sq := by omega
    have hsq1 : sq < 4611686018427387904 := by omega
    have hDr := dots_range h3
    have hPl : [[1], lenL (keyL k), numL cl, numL sq, numL (n1 : Nat)].flatten.length ≤ 100000000 := by simp [lenL, numL_len, keyL_len]; omega
    obtain ⟨Q, hQ⟩ : ∃ Q : Nat → List Int, Q = fun m => (qL k cl sq n1 ds m).flatten := ⟨_, rfl⟩
    have hQ0 : Q 0 = [[1], lenL (keyL k), numL cl, numL sq, numL (n1 : Nat)].flatten := by rw [hQ]; rfl
    have hQs : ∀ m, Q (m + 1) = [Q m, numL (dD ds (m * 2)), numL (dD ds (m * 2 + 1))].flatten := by rw [hQ]; exact fun m => by simp [qL]
    have hQl : ∀ m, (Q m).length = 33 + k.size + 16 * m := by rw [hQ]; exact qL_flat k cl sq n1 ds
    have hQt : ∀ g, [Q n1, [goneI g], lenL vs].flatten = textL k cl sq n1 ds g vs := by rw [hQ]; exact fun g => by simp [textL]
    clear hQ
    have htx := Lib.hid ht
    have hQt2 := hQt gone
    replace hQt2 := Lib.hid hQt2
    replace hQt := Lib.hid hQt
    replace hQ0 := Lib.hid hQ0
    replace hQs := Lib.hid hQs
    replace hQl := Lib.hid hQl
    replace hPl := Lib.hid hPl
    replace hDr := Lib.hid hDr
    have hB := hb0.size
    have h5k : n2 ≤ 1000000 := by omega
    clear hs ht h2 h3 h4 h5 h6 htt htf
    go_wp2
    refine wp_region_grow2 18 (fun k => Nat.beq k 3 || (Nat.ble 9 k && Nat.ble k 25)) _ [] (fun j x' q => (rt3L w k cl sq p1 n1 c1).getD j (fun _ _ => True) x' q) (fun _ => false) (fun f => #[.agg #[.string k, .int .i64 cl, .int .i64 sq, .slice p1 n1 c1, .bool gone, .slice p2 n2 c2, .slice p3 n3 c3], .pointer (some ⟨w.heap.size, 0, none⟩), .slice none 0 0, f 3, undef, undef, .agg #[.string k, .int .i64 cl, .int .i64 sq, .slice p1 n1 c1, .bool gone, .slice p2 n2 c2, .slice p3 n3 c3], .bool true, .bool false, f 9, f 10, f 11, f 12, f 13, f 14, f 15, f 16, f 17, f 18, f 19, f 20, f 21, f 22, f 23, f 24, f 25, undef, undef, undef, undef, undef, undef, undef, undef, undef, undef, undef, undef, undef, undef, undef, undef, undef, undef, undef, undef, undef, undef, undef, undef, undef, undef, undef, undef, undef, undef, undef, undef, undef, undef]) (fun f => rfl) (by kernel_rfl) (by kernel_rfl) (by kernel_rfl) (by kernel_rfl) (by kernel_rfl) (rt3S _ _ _ _ _ _ _) (fun _ _ _ h => by cases h) ?_ ?_
    · refine steps2_cons ?_ ?_
      · intro f w1 hb hd Q hK
        clear hd
        have hK := Lib.hid hK
        go_wp2
        exact hK.out _ _ ⟨_, _, _, rfl, rfl, one_new _ _⟩ ((Below.refl _ _).alloc (Nat.le_refl _) _) (fun h => by cases h)
      refine steps2_cons ?_ ?_
      · intro f w1 hb hd Q hK
        clear hd
        have hK := Lib.hid hK
        go_wp2
        exact hK.out _ _ rfl (Below.refl _ _) (fun h => by cases h)
      refine steps2_cons ?_ ?_
      · intro f w1 hb hd Q hK
        have e10 : f 10 = .pointer (some ⟨w.heap.size, 0, none⟩) := hd.1 rfl
        clear hd
        simp only [e10] at hK
        have hK := Lib.hid hK
        have c0 := (hG.below hb).cell 0
        simp only [List.getElem?_toArray, List.getElem?_cons_zero] at c0
        go_wp2
        exact hK.out _ _ rfl (Below.refl _ _) (fun h => by cases h)
      refine steps2_cons ?_ ?_
      · intro f w1 hb hd Q hK
        have e11 : f 11 = .string k := hd.1 rfl
        clear hd
        simp only [e11] at hK
        have hK := Lib.hid hK
        have kc := conv_run k
        go_wp2
        exact hK.out _ _ (conv_sl _ _ _) (conv_below _ _) (fun h => by cases h)
      refine steps2_cons ?_ ?_
      · intro f w1 hb hd Q hK
        obtain ⟨p12, n12, c12, e12, l12, b12⟩ := (hd.1 rfl : SlL (keyL k) (f 12) w1)
        replace l12 := Lib.hid l12
        replace b12 := Lib.hid b12
        clear hd
        simp only [e12] at hK
        have hK := Lib.hid hK
        go_wp2_with fail
        refine (rbytes_o _ _ _ _ l12.out (by rw [l12.out, keyL_len]; omega) _ b12.out).mono ?_
        intro e w2 h
        obtain ⟨r, m, c2, rfl, hm, hR, hb2, -⟩ := h.l
        replace hm := Lib.hid hm
        clear h
        go_wp2
        exact hK.out _ _ ⟨_, _, _, rfl, hm.out, hR⟩ hb2 (fun h => by cases h)
      refine steps2_cons ?_ ?_
      · intro f w1 hb hd Q hK
        clear hd
        have hK := Lib.hid hK
        go_wp2
        exact hK.out _ _ rfl (Below.refl _ _) (fun h => by cases h)
      refine steps2_cons ?_ ?_
      · intro f w1 hb hd Q hK
        have e14 : f 14 = .pointer (some ⟨w.heap.size, 1, none⟩) := hd.1 rfl
        clear hd
        simp only [e14] at hK
        have hK := Lib.hid hK
        have c0 := (hG.below hb).cell 1
        simp only [List.getElem?_toArray, List.getElem?_cons_zero, List.getElem?_cons_succ] at c0
        go_wp2
        exact hK.out _ _ rfl (Below.refl _ _) (fun h => by cases h)
      refine steps2_cons ?_ ?_
      · intro f w1 hb hd Q hK
        have e15 : f 15 = .int .i64 cl := hd.1 rfl
        clear hd
        simp only [e15] at hK
        have hK := Lib.hid hK
        go_wp2_with fail
        refine (rnumber_o cl hcl0 hcl1 _).mono ?_
        intro e w2 h
        obtain ⟨r, m, c2, rfl, hm, hR, hb2, -⟩ := h.l
        replace hm := Lib.hid hm
        clear h
        go_wp2
        exact hK.out _ _ ⟨_, _, _, rfl, hm.out, hR⟩ hb2 (fun h => by cases h)
      refine steps2_cons ?_ ?_
      · intro f w1 hb hd Q hK
        clear hd
        have hK := Lib.hid hK
        go_wp2
        exact hK.out _ _ rfl (Below.refl _ _) (fun h => by cases h)
      refine steps2_cons ?_ ?_
      · intro f w1 hb hd Q hK
        have e17 : f 17 = .pointer (some ⟨w.heap.size, 2, none⟩) := hd.1 rfl
        clear hd
        simp only [e17] at hK
        have hK := Lib.hid hK
        have c0 := (hG.below hb).cell 2
        simp only [List.getElem?_toArray, List.getElem?_cons_zero, List.getElem?_cons_succ] at c0
        go_wp2
        exact hK.out _ _ rfl (Below.refl _ _) (fun h => by cases h)
      refine steps2_cons ?_ ?_
      · intro f w1 hb hd Q hK
        have e18 : f 18 = .int .i64 sq := hd.1 rfl
        clear hd
        simp only [e18] at hK
        have hK := Lib.hid hK
        go_wp2_with fail
        refine (rnumber_o sq hsq0 hsq1 _).mono ?_
        intro e w2 h
        obtain ⟨r, m, c2, rfl, hm, hR, hb2, -⟩ := h.l
        replace hm := Lib.hid hm
        clear h
        go_wp2
        exact hK.out _ _ ⟨_, _, _, rfl, hm.out, hR⟩ hb2 (fun h => by cases h)
      refine steps2_cons ?_ ?_
      · intro f w1 hb hd Q hK
        clear hd
        have hK := Lib.hid hK
        go_wp2
        exact hK.out _ _ rfl (Below.refl _ _) (fun h => by cases h)
      refine steps2_cons ?_ ?_
      · intro f w1 hb hd Q hK
        have e20 : f 20 = .pointer (some ⟨w.heap.size, 3, none⟩) := hd.1 rfl
        clear hd
        simp only [e20] at hK
        have hK := Lib.hid hK
        have c0 := (hG.below hb).cell 3
        simp only [List.getElem?_toArray, List.getElem?_cons_zero, List.getElem?_cons_succ] at c0
        go_wp2
        exact hK.out _ _ rfl (Below.refl _ _) (fun h => by cases h)
      refine steps2_cons ?_ ?_
      · intro f w1 hb hd Q hK
        have e21 : f 21 = .slice p1 n1 c1 := hd.1 rfl
        clear hd
        simp only [e21] at hK
        have hK := Lib.hid hK
        go_wp2
        exact hK.out _ _ rfl (Below.refl _ _) (fun h => by cases h)
      refine steps2_cons ?_ ?_
      · intro f w1 hb hd Q hK
        have e22 : f 22 = .int .i64 n1 := hd.1 rfl
        clear hd
        simp only [e22] at hK
        have hK := Lib.hid hK
        go_wp2_with fail
        refine (rnumber_o (n1 : Int) (by omega) (by omega) _).mono ?_
        intro e w2 h
        obtain ⟨r, m, c2, rfl, hm, hR, hb2, -⟩ := h.l
        replace hm := Lib.hid hm
        clear h
        go_wp2
        exact hK.out _ _ ⟨_, _, _, rfl, hm.out, hR⟩ hb2 (fun h => by cases h)
      refine steps2_cons ?_ ?_
      · intro f w1 hb hd Q hK
        obtain ⟨p9, n9, c9, e9, l9, b9⟩ := (hd.1 rfl : SlL ([1]) (f 9) w1)
        replace l9 := Lib.hid l9
        replace b9 := Lib.hid b9
        obtain ⟨p13, n13, c13, e13, l13, b13⟩ := (hd.2.1 rfl : SlL (lenL (keyL k)) (f 13) w1)
        replace l13 := Lib.hid l13
        replace b13 := Lib.hid b13
        obtain ⟨p16, n16, c16, e16, l16, b16⟩ := (hd.2.2.1 rfl : SlL (numL cl) (f 16) w1)
        replace l16 := Lib.hid l16
        replace b16 := Lib.hid b16
        obtain ⟨p19, n19, c19, e19, l19, b19⟩ := (hd.2.2.2.1 rfl : SlL (numL sq) (f 19) w1)
        replace l19 := Lib.hid l19
        replace b19 := Lib.hid b19
        obtain ⟨p23, n23, c23, e23, l23, b23⟩ := (hd.2.2.2.2.1 rfl : SlL (numL (n1 : Nat)) (f 23) w1)
        replace l23 := Lib.hid l23
        replace b23 := Lib.hid b23
        clear hd
        simp only [e9, e13, e16, e19, e23] at hK
        have hK := Lib.hid hK
        go_wp2
        exact hK.out _ _ ⟨_, rfl, (pown5 (Nat.le_refl _) ⟨_, _, _, rfl, l9.out, b9.out⟩ ⟨_, _, _, rfl, l13.out, b13.out⟩ ⟨_, _, _, rfl, l16.out, b16.out⟩ ⟨_, _, _, rfl, l19.out, b19.out⟩ ⟨_, _, _, rfl, l23.out, b23.out⟩).parts rfl⟩ ((Below.refl _ _).alloc (Nat.le_refl _) _) (fun h => by cases h)
      refine steps2_cons ?_ ?_
      · intro f w1 hb hd Q hK
        obtain ⟨g24, e24, po24⟩ := (hd.1 rfl : PaL 5 ([[1], lenL (keyL k), numL cl, numL sq, numL (n1 : Nat)]) (f 24) w1)
        replace po24 := Lib.hid po24
        clear hd
        simp only [e24] at hK
        have hK := Lib.hid hK
        have hsz := Nat.le_trans hB hb.size
        go_wp2_with fail
        refine (rjoin_o _ 0 5 5 ([[1], lenL (keyL k), numL cl, numL sq, numL (n1 : Nat)]) rfl hPl.out (by decide) _ po24.out).mono ?_
        rintro e w2 ⟨v, n, rfl, ho, hb2⟩
        have ho2 := Lib.hid (own_mono ho hsz)
        clear ho
        go_wp2
        exact hK.out _ _ ⟨_, _, rfl, ho2.out⟩ hb2 (fun h => by cases h)
      refine steps2_cons ?_ ?_
      · intro f w1 hb hd Q hK
        obtain ⟨v25, n25, e25, ow25⟩ := (hd.1 rfl : OwL w.heap.size (([[1], lenL (keyL k), numL cl, numL sq, numL (n1 : Nat)]).flatten) (f 25) w1)
        replace ow25 := Lib.hid ow25
        clear hd
        simp only [e25] at hK
        have hK := Lib.hid hK
        go_wp2
        exact hK.out _ _ ⟨_, _, rfl, ow25.out⟩ (Below.refl _ _) (fun h => by cases h)
      trivial
    · intro ff w2 hb2 hf hne
      refine wpList_nil ?_
      obtain ⟨v3, n3', d3, ow3⟩ : OwL w.heap.size (([[1], lenL (keyL k), numL cl, numL sq, numL (n1 : Nat)]).flatten) (ff 3) w2 := hf 17 _ _ (by decide) rfl rfl
      clear hf hne
      replace hG := hG.below hb2
      replace hb0 := hb0.trans (hb2.mono hb0.size)
      clear hb2 hB hPl
      rw [← hQ0.out] at ow3
      simp only [d3]
      clear d3
      have hn3 : n3' = (Q 0).length := by have := ow3.1; rw [bL_len] at this; omega
      subst hn3
      replace ow3 := Lib.hid ow3
      replace hG := Lib.hid hG
      go_wp2
      go_loopw [3, 4] (fun v i wr => ∃ m : Nat, m ≤ n1 ∧ i = .int .i64 m ∧ wr.ownsRow w.heap.size 5 1 v (Q m).length (bL (Q m)) ∧ Blk wr w.heap.size 25 #[.string k, .int .i64 cl, .int .i64 sq, .slice p1 n1 c1, .bool gone, .slice p2 n2 c2, .slice p3 n3 c3] ∧ Below w.heap.size w wr) (fun _ i _ => (n1 - intOf i).toNat)
      case atStart => exact ⟨0, by omega, rfl, ow3.out, hG.out, hb0⟩
      case round =>
        clear ow3 hG hb0
        obtain ⟨m, hm, hi, ho, hG, hb⟩ := hrel
        subst hi
        obtain ⟨y0, y1, y2, y3, y4, y5, y6⟩ := blk7 hG
        by_cases he : m = n1
        · subst he
          obtain ⟨qo, co, hv, hno, hBo⟩ := ownB_form ho
          have hql := hQl.out m
          have hBw := hb.size
          have hGl : w.heap.size < wr.heap.size := hG.lt
          replace hBo := Lib.hid hBo
          replace hno := Lib.hid hno
          subst hv
          have hfin : ∀ gi : Int, gi = goneI gone → ∀ W1 : World, W1 = wr.alloc (.cells #[.int .u8 gi] 5) → Below w.heap.size w W1 ∧ BytesL W1 qo (Q m) ∧ BytesL W1 (some ⟨wr.heap.size, 0, none⟩) [goneI gone] := fun gi hgi W1 hW => by
            subst hgi hW
            exact ⟨hb.alloc hb.size _, hBo.out.below ((Below.refl _ _).alloc (Nat.le_refl _) _), fun _ => ⟨_, 0, rfl, by simp, fun j hj => by
              have : j = 0 := by simpa using hj
              subst this
              exact (Blk.new wr 5 #[.int .u8 (goneI gone)]).cell 0⟩⟩
          have hlen : [Q m, [goneI gone], lenL vs].flatten.length ≤ 100000000 := by
            have := hn2.out
            simp [hql, lenL, numL_len]
            omega
          replace hfin := Lib.hid hfin
          replace hlen := Lib.hid hlen
          have hrb := fun W1 hW => rbytes_o p2 n2 c2 vs hn2.out h5k W1 (hV.out.below (w := w) (w' := W1) hW)
          replace hrb := Lib.hid hrb
          clear hm ho hBo hQs hQl hQt hQ0 hDr hql hG hb
          cases gone
          · go_wp2_with fail
            refine calls_at (fun W1 hW => ?_)
            obtain ⟨hb1, hq1, hg1⟩ := hfin.out 0 rfl W1 hW
            clear hW hfin
            refine (hrb.out W1 hb1).mono ?_
            rintro e w3 ⟨v3', n3', rfl, ho3, hb3⟩
            obtain ⟨q3, k3, rfl, hn3, hB3⟩ := ownB_form ho3
            have hq3 := hq1.below hb3
            have hg3 := hg1.below hb3
            have hbw := hb1.trans (hb3.mono hb1.size)
            replace hn3 := Lib.hid hn3
            replace hB3 := Lib.hid hB3
            replace hq3 := Lib.hid hq3
            replace hg3 := Lib.hid hg3
            clear ho3 hb3 hb1 hq1 hg1 hrb y0 y1 y2 y3 y4 y5 y6
            go_wp2_with fail
            refine calls_at (fun W4 hW => ?_)
            have hR4 : Blk W4 w3.heap.size 23 #[.slice qo (Q m).length co, .slice (some ⟨wr.heap.size, 0, none⟩) 1 1, .slice q3 n3' k3] := by rw [hW]; exact Blk.new _ _ _
            have hb4 : Below w3.heap.size w3 W4 := by rw [hW]; exact (Below.refl _ _).alloc (Nat.le_refl _) _
            clear hW
            have hP := parts3 hR4 rfl rfl hn3.out (hq3.out.below hb4) (hg3.out.below hb4) (hB3.out.below hb4)
            have hbx := hbw.trans (hb4.mono hbw.size)
            refine (rjoin_o _ 0 3 3 _ rfl hlen.out (by decide) W4 hP).mono ?_
            rintro e w5 ⟨v5, n5, rfl, ho5, hb5⟩
            rw [hQt2.out] at ho5
            have ho6 := Lib.hid (own_mono ho5 hbx.size)
            have hb6 := hbx.trans (hb5.mono hbx.size)
            clear ho5 hb5 hP hR4 hb4 hbx hbw hn3 hB3 hq3 hg3
            go_wp2
            go_returns
            exact ⟨_, _, rfl, by rw [htx.out]; exact ho6.out, hb6⟩
          · go_wp2_with fail
            refine calls_at (fun W1 hW => ?_)
            obtain ⟨hb1, hq1, hg1⟩ := hfin.out 1 rfl W1 hW
            clear hW hfin
            refine (hrb.out W1 hb1).mono ?_
            rintro e w3 ⟨v3', n3', rfl, ho3, hb3⟩
            obtain ⟨q3, k3, rfl, hn3, hB3⟩ := ownB_form ho3
            have hq3 := hq1.below hb3
            have hg3 := hg1.below hb3
            have hbw := hb1.trans (hb3.mono hb1.size)
            replace hn3 := Lib.hid hn3
            replace hB3 := Lib.hid hB3
            replace hq3 := Lib.hid hq3
            replace hg3 := Lib.hid hg3
            clear ho3 hb3 hb1 hq1 hg1 hrb y0 y1 y2 y3 y4 y5 y6
            go_wp2_with fail
            refine calls_at (fun W4 hW => ?_)
            have hR4 : Blk W4 w3.heap.size 23 #[.slice qo (Q m).length co, .slice (some ⟨wr.heap.size, 0, none⟩) 1 1, .slice q3 n3' k3] := by rw [hW]; exact Blk.new _ _ _
            have hb4 : Below w3.heap.size w3 W4 := by rw [hW]; exact (Below.refl _ _).alloc (Nat.le_refl _) _
            clear hW
            have hP := parts3 hR4 rfl rfl hn3.out (hq3.out.below hb4) (hg3.out.below hb4) (hB3.out.below hb4)
            have hbx := hbw.trans (hb4.mono hbw.size)
            refine (rjoin_o _ 0 3 3 _ rfl hlen.out (by decide) W4 hP).mono ?_
            rintro e w5 ⟨v5, n5, rfl, ho5, hb5⟩
            rw [hQt2.out] at ho5
            have ho6 := Lib.hid (own_mono ho5 hbx.size)
            have hb6 := hbx.trans (hb5.mono hbx.size)
            clear ho5 hb5 hP hR4 hb4 hbx hbw hn3 hB3 hq3 hg3
            go_wp2
            go_returns
            exact ⟨_, _, rfl, by rw [htx.out]; exact ho6.out, hb6⟩
        · have hm0 : (0 : Int) ≤ (m : Int) := by omega
          have hm1 : (m : Int) < (n1 : Int) := by omega
          have hm2 : m < n1 := by omega
          obtain ⟨g, o, rfl, hg, hc⟩ := (hD.out.2.below hb) (by omega)
          have cx : wr.cell? ⟨g, o + m * 2, none⟩ = some (.int .i64 (dD ds (m * 2))) := hc (m * 2) (by omega)
          have cy : wr.cell? ⟨g, o + m * 2 + 1, none⟩ = some (.int .i64 (dD ds (m * 2 + 1))) := by rw [Nat.add_assoc]; exact hc (m * 2 + 1) (by omega)
          have hx := hDr.out (m * 2) (by omega)
          have hy := hDr.out (m * 2 + 1) (by omega)
          have hqs := hQs.out m
          have hql := hQl.out (m + 1)
          rw [hqs] at hql
          obtain ⟨qo, co, hv, hno, hBo⟩ := ownB_form ho
          have hPl : [Q m, numL (dD ds (m * 2)), numL (dD ds (m * 2 + 1))].flatten.length ≤ 100000000 := by omega
          have hB := hb.size
          obtain ⟨T, hT⟩ : ∃ T, T = Q m := ⟨_, rfl⟩
          clear hno
          rw [← hT] at hBo hPl hqs
          obtain ⟨no, hno2⟩ : ∃ no, no = T.length := ⟨_, rfl⟩
          have hv2 : u3 = .slice qo no co := by rw [hv, hno2, ← hT]
          clear ho
          have ho := Lib.hid hBo
          have hnoT := Lib.hid hno2
          replace hqs := Lib.hid hqs
          replace hPl := Lib.hid hPl
          clear hT hno2 hv hql hc he hm hBo
          generalize dD ds (m * 2) = x at *
          generalize dD ds (m * 2 + 1) = y at *
          subst hv2
          go_wp2
          refine wp_region_grow2 17 (fun k => (Nat.ble 33 k && Nat.ble k 49)) _ [] (fun j x' q => (rt7L w T x y g o n1 c1 m no co qo).getD j (fun _ _ => True) x' q) (fun _ => false) (fun f => #[.agg #[.string k, .int .i64 cl, .int .i64 sq, .slice (some ⟨g, o, none⟩) n1 c1, .bool gone, .slice p2 n2 c2, .slice p3 n3 c3], .pointer (some ⟨w.heap.size, 0, none⟩), .slice none 0 0, .slice qo no co, .int .i64 m, undef, .agg #[.string k, .int .i64 cl, .int .i64 sq, .slice (some ⟨g, o, none⟩) n1 c1, .bool gone, .slice p2 n2 c2, .slice p3 n3 c3], .bool true, .bool false, ff 9, ff 10, ff 11, ff 12, ff 13, ff 14, ff 15, ff 16, ff 17, ff 18, ff 19, ff 20, ff 21, ff 22, ff 23, ff 24, ff 25, .int .i64 m, .pointer (some ⟨w.heap.size, 3, none⟩), .slice (some ⟨g, o, none⟩) n1 c1, .int .i64 n1, .bool true, u31, u32, f 33, f 34, f 35, f 36, f 37, f 38, f 39, f 40, f 41, f 42, f 43, f 44, f 45, f 46, f 47, f 48, f 49, undef, undef, undef, undef, undef, undef, undef, undef, undef, undef]) (fun f => rfl) (by kernel_rfl) (by kernel_rfl) (by kernel_rfl) (by kernel_rfl) (by kernel_rfl) (rt7S _ _ _ _ _ _ _ _ _ _ _ _) (fun _ _ _ h => by cases h) ?_ ?_
          · refine steps2_cons ?_ ?_
            · intro f w1 hb hd Q hK
              clear hd
              have hK := Lib.hid hK
              go_wp2
              exact hK.out _ _ rfl (Below.refl _ _) (fun h => by cases h)
            refine steps2_cons ?_ ?_
            · intro f w1 hb hd Q hK
              clear hd
              have hK := Lib.hid hK
              go_wp2
              exact hK.out _ _ rfl (Below.refl _ _) (fun h => by cases h)
            refine steps2_cons ?_ ?_
            · intro f w1 hb hd Q hK
              have e34 : f 34 = .pointer (some ⟨w.heap.size, 3, none⟩) := hd.1 rfl
              clear hd
              simp only [e34] at hK
              have hK := Lib.hid hK
              have c0 := (hG.below hb).cell 3
              simp only [List.getElem?_toArray, List.getElem?_cons_zero, List.getElem?_cons_succ] at c0
              go_wp2
              exact hK.out _ _ rfl (Below.refl _ _) (fun h => by cases h)
            refine steps2_cons ?_ ?_
            · intro f w1 hb hd Q hK
              clear hd
              have hK := Lib.hid hK
              go_wp2
              exact hK.out _ _ rfl (Below.refl _ _) (fun h => by cases h)
            refine steps2_cons ?_ ?_
            · intro f w1 hb hd Q hK
              have e35 : f 35 = .slice (some ⟨g, o, none⟩) n1 c1 := hd.1 rfl
              have e36 : f 36 = .int .i64 m := hd.2.1 rfl
              clear hd
              simp only [e35, e36] at hK
              have hK := Lib.hid hK
              go_wp2
              exact hK.out _ _ rfl (Below.refl _ _) (fun h => by cases h)
            refine steps2_cons ?_ ?_
            · intro f w1 hb hd Q hK
              have e37 : f 37 = .pointer (some ⟨g, o + m * 2, none⟩) := hd.1 rfl
              clear hd
              simp only [e37] at hK
              have hK := Lib.hid hK
              go_wp2
              exact hK.out _ _ rfl (Below.refl _ _) (fun h => by cases h)
            refine steps2_cons ?_ ?_
            · intro f w1 hb hd Q hK
              have e38 : f 38 = .pointer (some ⟨g, o + m * 2, none⟩) := hd.1 rfl
              clear hd
              simp only [e38] at hK
              have hK := Lib.hid hK
              have c0 := (hb.cell (p := ⟨g, o + m * 2, none⟩) hg).trans cx
              go_wp2
              exact hK.out _ _ rfl (Below.refl _ _) (fun h => by cases h)
            refine steps2_cons ?_ ?_
            · intro f w1 hb hd Q hK
              have e39 : f 39 = .int .i64 x := hd.1 rfl
              clear hd
              simp only [e39] at hK
              have hK := Lib.hid hK
              go_wp2_with fail
              refine (rnumber_o x hx.1 hx.2 _).mono ?_
              intro e w2 h
              obtain ⟨r, m, c2, rfl, hm, hR, hb2, -⟩ := h.l
              replace hm := Lib.hid hm
              clear h
              go_wp2
              exact hK.out _ _ ⟨_, _, _, rfl, hm.out, hR⟩ hb2 (fun h => by cases h)
            refine steps2_cons ?_ ?_
            · intro f w1 hb hd Q hK
              clear hd
              have hK := Lib.hid hK
              go_wp2
              exact hK.out _ _ rfl (Below.refl _ _) (fun h => by cases h)
            refine steps2_cons ?_ ?_
            · intro f w1 hb hd Q hK
              have e41 : f 41 = .pointer (some ⟨w.heap.size, 3, none⟩) := hd.1 rfl
              clear hd
              simp only [e41] at hK
              have hK := Lib.hid hK
              have c0 := (hG.below hb).cell 3
              simp only [List.getElem?_toArray, List.getElem?_cons_zero, List.getElem?_cons_succ] at c0
              go_wp2
              exact hK.out _ _ rfl (Below.refl _ _) (fun h => by cases h)
            refine steps2_cons ?_ ?_
            · intro f w1 hb hd Q hK
              clear hd
              have hK := Lib.hid hK
              go_wp2
              exact hK.out _ _ rfl (Below.refl _ _) (fun h => by cases h)
            refine steps2_cons ?_ ?_
            · intro f w1 hb hd Q hK
              have e42 : f 42 = .slice (some ⟨g, o, none⟩) n1 c1 := hd.1 rfl
              have e43 : f 43 = .int .i64 m := hd.2.1 rfl
              clear hd
              simp only [e42, e43] at hK
              have hK := Lib.hid hK
              go_wp2
              exact hK.out _ _ rfl (Below.refl _ _) (fun h => by cases h)
            refine steps2_cons ?_ ?_
            · intro f w1 hb hd Q hK
              have e44 : f 44 = .pointer (some ⟨g, o + m * 2, none⟩) := hd.1 rfl
              clear hd
              simp only [e44] at hK
              have hK := Lib.hid hK
              go_wp2
              exact hK.out _ _ rfl (Below.refl _ _) (fun h => by cases h)
            refine steps2_cons ?_ ?_
            · intro f w1 hb hd Q hK
              have e45 : f 45 = .pointer (some ⟨g, o + m * 2 + 1, none⟩) := hd.1 rfl
              clear hd
              simp only [e45] at hK
              have hK := Lib.hid hK
              have c0 := (hb.cell (p := ⟨g, o + m * 2 + 1, none⟩) hg).trans cy
              go_wp2
              exact hK.out _ _ rfl (Below.refl _ _) (fun h => by cases h)
            refine steps2_cons ?_ ?_
            · intro f w1 hb hd Q hK
              have e46 : f 46 = .int .i64 y := hd.1 rfl
              clear hd
              simp only [e46] at hK
              have hK := Lib.hid hK
              go_wp2_with fail
              refine (rnumber_o y hy.1 hy.2 _).mono ?_
              intro e w2 h
              obtain ⟨r, m, c2, rfl, hm, hR, hb2, -⟩ := h.l
              replace hm := Lib.hid hm
              clear h
              go_wp2
              exact hK.out _ _ ⟨_, _, _, rfl, hm.out, hR⟩ hb2 (fun h => by cases h)
            refine steps2_cons ?_ ?_
            · intro f w1 hb hd Q hK
              have e33 : f 33 = .slice qo no co := hd.1 rfl
              obtain ⟨p40, n40, c40, e40, l40, b40⟩ := (hd.2.1 rfl : SlL (numL x) (f 40) w1)
              replace l40 := Lib.hid l40
              replace b40 := Lib.hid b40
              obtain ⟨p47, n47, c47, e47, l47, b47⟩ := (hd.2.2.1 rfl : SlL (numL y) (f 47) w1)
              replace l47 := Lib.hid l47
              replace b47 := Lib.hid b47
              clear hd
              simp only [e33, e40, e47] at hK
              have hK := Lib.hid hK
              have ho1 := ho.out.below hb
              go_wp2
              exact hK.out _ _ ⟨_, rfl, parts3 (Blk.new _ _ _) hnoT.out l40.out l47.out (ho1.below ((Below.refl _ _).alloc (Nat.le_refl _) _)) (b40.out.below ((Below.refl _ _).alloc (Nat.le_refl _) _)) (b47.out.below ((Below.refl _ _).alloc (Nat.le_refl _) _))⟩ ((Below.refl _ _).alloc (Nat.le_refl _) _) (fun h => by cases h)
            refine steps2_cons ?_ ?_
            · intro f w1 hb hd Q hK
              obtain ⟨g48, e48, po48⟩ := (hd.1 rfl : PaL 3 ([T, numL x, numL y]) (f 48) w1)
              replace po48 := Lib.hid po48
              clear hd
              simp only [e48] at hK
              have hK := Lib.hid hK
              have hsz := Nat.le_trans hB hb.size
              go_wp2_with fail
              refine (rjoin_o _ 0 3 3 ([T, numL x, numL y]) rfl hPl.out (by decide) _ po48.out).mono ?_
              rintro e w2 ⟨v, n, rfl, ho, hb2⟩
              have ho2 := Lib.hid (own_mono ho hsz)
              clear ho
              go_wp2
              exact hK.out _ _ ⟨_, _, rfl, ho2.out⟩ hb2 (fun h => by cases h)
            trivial
          · intro f w2 hb2 hf hne
            obtain ⟨v3, n3', d3, ow3⟩ : OwL w.heap.size (([T, numL x, numL y]).flatten) (f 49) w2 := hf 16 _ _ (by decide) rfl rfl
            clear hf hne
            have hG2 := hG.below hb2
            have hb9 := hb.trans (hb2.mono hb.size)
            simp only [d3]
            clear d3
            rw [← hqs.out] at ow3
            have hn3 : n3' = (Q (m + 1)).length := by have := ow3.1; rw [bL_len] at this; omega
            subst hn3
            replace ow3 := Lib.hid ow3
            replace hG2 := Lib.hid hG2
            clear hG hb y0 y1 y2 y3 y4 y5 y6 cx cy hx hy ho hnoT
            go_wp2
            exact ⟨⟨m + 1, by omega, by rw [Int.natCast_add]; rfl, ow3.out, hG2.out, hb9⟩, by simp [intOf]; omega⟩
end Go.Proofs.YtiimojhdpmkeoaaGreat
