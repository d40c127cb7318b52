/- The walks of record.Put, of the reference's Right and Put. -/
import Derived.Test.YtiimojhdpmkeoaaGreatRy
namespace Go.Proofs.YtiimojhdpmkeoaaGreat
open Go.RowKit
set_option maxRecDepth 20000 in
set_option maxHeartbeats 4000000 in
theorem rright8_c (k : ByteArray) (cl sq : Int) (p1 : Option Addr) (n1 c1 : Nat) (gone : Bool) (p2 : Option Addr) (n2 c2 : Nat) (p3 : Option Addr) (n3 c3 : Nat) (ds : List Int) (hn1 : n1 ≤ 400000) (w : World) (hD : DotsL w p1 n1 ds) :
    Calls Tryz.prog 11 #[.agg #[.string k, .int .i64 cl, .int .i64 sq, .slice p1 n1 c1, .bool gone, .slice p2 n2 c2, .slice p3 n3 c3]] w fun e w' => e = .returned (.bool (rightR k.size cl sq n1 ds gone n2 n3)) ∧ Below w.heap.size w w' := by
  have hsh := fun w' hb => rshape_c k cl sq p1 n1 c1 gone p2 n2 c2 p3 n3 c3 ds (by omega) w' (hD.below (w := w) (w' := w') hb)
  replace hsh := Lib.hid hsh
  clear hD
  obtain ⟨E, hE⟩ : ∃ E, E = rightR k.size cl sq n1 ds gone n2 n3 := ⟨_, rfl⟩
  rw [← hE]
  unfold rightR at hE
  replace hE := Lib.hid hE
  go_enter Tryz.func11, Tryz.ntmps11
  go_wp2_with fail
  refine calls_at (fun W0 hW => ?_)
  have hG : Blk W0 w.heap.size 25 #[.string k, .int .i64 cl, .int .i64 sq, .slice p1 n1 c1, .bool gone, .slice p2 n2 c2, .slice p3 n3 c3] := by rw [hW]; exact Blk.new _ _ _
  have hb0 : Below w.heap.size w W0 := by rw [hW]; exact (Below.refl _ _).alloc (Nat.le_refl _) _
  clear hW
  refine (hsh.out _ hb0).mono ?_
  rintro e w1 ⟨rfl, hb⟩
  replace hG := hG.below hb
  replace hb0 := hb0.trans (hb.mono hb0.size)
  clear hb hsh
  obtain ⟨y0, y1, y2, y3, y4, y5, y6⟩ := blk7 hG
  cases hs : shB k.size cl sq n1 ds gone n2
  · rw [hs, Bool.false_and] at hE
    clear hs
    go_wp2
    go_returns
    exact ⟨by rw [hE.out]; rfl, hb0⟩
  · rw [hs, Bool.true_and] at hE
    clear hs
    by_cases h : n3 = 64
    · rw [decide_eq_true h] at hE
      subst h
      go_wp2
      go_returns
      exact ⟨by rw [hE.out]; rfl, hb0⟩
    · rw [decide_eq_false h] at hE
      have h64 : ((n3 : Int) == 64) = false := by simp; omega
      go_wp2
      go_returns
      exact ⟨by rw [hE.out]; rfl, hb0⟩
/-- what Put answers: bytes, an error -/
def putL (k : ByteArray) (cl sq : Int) (n1 : Nat) (ds : List Int) (gone : Bool) (vs ss : List Int) : List Int := if rightR k.size cl sq n1 ds gone vs.length ss.length then txtL k cl sq n1 ds gone vs ++ ss else []
def putE (k : ByteArray) (cl sq : Int) (n1 : Nat) (ds : List Int) (gone : Bool) (vs ss : List Int) : Int := if rightR k.size cl sq n1 ds gone vs.length ss.length then 0 else 4
def PostPt (xs : List Int) (er : Int) (w : World) (e : Ending) (w' : World) : Prop := ∃ v n, e = .returned (.tuple #[v, .int .i64 er]) ∧ w'.ownsRow w.heap.size 5 1 v n (bL xs) ∧ Below w.heap.size w w'
theorem put_no {k : ByteArray} {cl sq : Int} {n1 : Nat} {ds : List Int} {gone : Bool} {n2 n3 : Nat} {vs ss : List Int} (hn2 : n2 = vs.length) (hn3 : n3 = ss.length) (h : rightR k.size cl sq n1 ds gone n2 n3 = false) : putL k cl sq n1 ds gone vs ss = [] ∧ putE k cl sq n1 ds gone vs ss = 4 := by
  unfold putL putE
  rw [← hn2, ← hn3, h]
  exact ⟨rfl, rfl⟩
theorem put_yes {k : ByteArray} {cl sq : Int} {n1 : Nat} {ds : List Int} {gone : Bool} {n2 n3 : Nat} {vs ss : List Int} (hn1 : n1 ≤ 400000) (hn2 : n2 = vs.length) (hn3 : n3 = ss.length) (h : rightR k.size cl sq n1 ds gone n2 n3 = true) : putL k cl sq n1 ds gone vs ss = txtL k cl sq n1 ds gone vs ++ ss ∧ putE k cl sq n1 ds gone vs ss = 0 ∧ ss.length = 64 ∧ (txtL k cl sq n1 ds gone vs).length ≤ 90000000 := by
  have h0 := h
  unfold rightR at h0
  rw [Bool.and_eq_true] at h0
  have h64 := of_decide_eq_true h0.2
  obtain ⟨⟨_, hk⟩, _, _, _, h5, _⟩ := shB_true h0.1
  have hs := h0.1
  unfold putL putE
  rw [← hn2, ← hn3, h]
  refine ⟨rfl, rfl, by omega, ?_⟩
  unfold txtL
  rw [← hn2, hs]
  show (textL k cl sq n1 ds gone vs).length ≤ 90000000
  unfold textL
  rw [List.flatten_append, List.length_append, qL_flat]
  simp only [List.flatten_cons, List.flatten_nil, List.append_nil, List.length_append, List.length_cons, List.length_nil, lenL, numL_len]
  omega
def rp1L (w : World) (k : ByteArray) (cl sq : Int) (p1 : Option Addr) (n1 c1 : Nat) (gone : Bool) (p2 : Option Addr) (n2 c2 : Nat) (p3 : Option Addr) (n3 c3 : Nat) (TX ss : List Int) : List (Value → World → Prop) := [
  Eq1 (.agg #[.string k, .int .i64 cl, .int .i64 sq, .slice p1 n1 c1, .bool gone, .slice p2 n2 c2, .slice p3 n3 c3]),
  SlL (TX),
  Eq1 (.pointer (some ⟨w.heap.size, 6, none⟩)),
  Eq1 (.slice p3 n3 c3),
  PaL 2 ([TX, ss]),
  OwL w.heap.size ([TX, ss].flatten),
  OwL w.heap.size ([TX, ss].flatten),
  Eq1 (.int .i64 0)]
theorem rp1S (w : World) (k : ByteArray) (cl sq : Int) (p1 : Option Addr) (n1 c1 : Nat) (gone : Bool) (p2 : Option Addr) (n2 c2 : Nat) (p3 : Option Addr) (n3 c3 : Nat) (TX ss : List Int) : ∀ j x' q q', (rp1L w k cl sq p1 n1 c1 gone p2 n2 c2 p3 n3 c3 TX ss).getD j (fun _ _ => True) x' q → Below q.heap.size q q' → (rp1L w k cl sq p1 n1 c1 gone p2 n2 c2 p3 n3 c3 TX ss).getD j (fun _ _ => True) x' q' := by
  refine sta_all _ ?_
  simp only [rp1L, List.mem_cons, forall_eq_or_imp, List.not_mem_nil, false_implies, implies_true, and_true]
  exact ⟨sta_eq _, sta_slL _, sta_eq _, sta_eq _, sta_paL _ _, sta_owL _ _, sta_owL _ _, sta_eq _⟩
set_option maxRecDepth 20000 in
set_option maxHeartbeats 4000000 in
theorem rput_c (k : ByteArray) (cl sq : Int) (p1 : Option Addr) (n1 c1 : Nat) (gone : Bool) (p2 : Option Addr) (n2 c2 : Nat) (p3 : Option Addr) (n3 c3 : Nat) (ds vs ss : List Int) (hn1 : n1 ≤ 400000) (hn2 : n2 = vs.length) (hn3 : n3 = ss.length) (w : World) (hD : DotsL w p1 n1 ds) (hV : BytesL w p2 vs) (hS : BytesL w p3 ss) :
    Calls Tryz.prog 9 #[.agg #[.string k, .int .i64 cl, .int .i64 sq, .slice p1 n1 c1, .bool gone, .slice p2 n2 c2, .slice p3 n3 c3]] w (PostPt (putL k cl sq n1 ds gone vs ss) (putE k cl sq n1 ds gone vs ss) w) := by
  have hrt := fun w' hb => rright8_c k cl sq p1 n1 c1 gone p2 n2 c2 p3 n3 c3 ds (by omega) w' (hD.below (w := w) (w' := w') hb)
  have htx := fun w' hb => rtext_o k cl sq p1 n1 c1 gone p2 n2 c2 p3 n3 c3 ds vs hn1 hn2 w' (hD.below (w := w) (w' := w') hb) (hV.below hb)
  have hyes : rightR k.size cl sq n1 ds gone n2 n3 = true → putL k cl sq n1 ds gone vs ss = txtL k cl sq n1 ds gone vs ++ ss ∧ putE k cl sq n1 ds gone vs ss = 0 ∧ ss.length = 64 ∧ (txtL k cl sq n1 ds gone vs).length ≤ 90000000 := fun h => put_yes hn1 hn2 hn3 h
  have hno : rightR k.size cl sq n1 ds gone n2 n3 = false → putL k cl sq n1 ds gone vs ss = [] ∧ putE k cl sq n1 ds gone vs ss = 4 := fun h => put_no hn2 hn3 h
  replace hrt := Lib.hid hrt
  replace htx := Lib.hid htx
  replace hyes := Lib.hid hyes
  replace hno := Lib.hid hno
  replace hS := Lib.hid hS
  replace hn3 := Lib.hid hn3
  clear hD hV hn2
  obtain ⟨TX, hTX⟩ : ∃ TX, TX = txtL k cl sq n1 ds gone vs := ⟨_, rfl⟩
  rw [← hTX] at htx hyes
  clear hTX
  go_enter Tryz.func9, Tryz.ntmps9
  go_wp2_with fail
  refine calls_at (fun W0 hW => ?_)
  have hG : Blk W0 w.heap.size 25 #[.string k, .int .i64 cl, .int .i64 sq, .slice p1 n1 c1, .bool gone, .slice p2 n2 c2, .slice p3 n3 c3] := by rw [hW]; exact Blk.new _ _ _
  have hb0 : Below w.heap.size w W0 := by rw [hW]; go_grown
  clear hW
  refine (hrt.out _ hb0).mono ?_
  rintro e w1 ⟨rfl, hb⟩
  replace hG := hG.below hb
  replace hb0 := hb0.trans (hb.mono hb0.size)
  clear hb hrt
  cases hr : rightR k.size cl sq n1 ds gone n2 n3
  · obtain ⟨h1, h2⟩ := hno.out hr
    replace h1 := Lib.hid h1
    replace h2 := Lib.hid h2
    clear hr hyes hno
    go_wp2
    go_returns
    exact ⟨.slice none 0 0, 0, by rw [h2.out]; rfl, by rw [h1.out]; exact ownB_nil, hb0⟩
  · obtain ⟨h1, h2, h3, h4⟩ := hyes.out hr
    have hPl : [TX, ss].flatten.length ≤ 100000000 := by simp; omega
    have hB := hb0.size
    have htx2 := fun w' (hb : Below w1.heap.size w1 w') => htx.out w' (hb0.trans (hb.mono hb0.size))
    replace htx := Lib.hid htx2
    replace hS := Lib.hid (hS.out.below hb0)
    replace hPl := Lib.hid hPl
    replace h1 := Lib.hid h1
    replace h2 := Lib.hid h2
    clear hr hyes hno htx2 h3 h4
    go_wp2
    refine wp_region_grow2 8 (fun k => (Nat.ble 2 k && Nat.ble k 3) || (Nat.ble 7 k && Nat.ble k 12)) _ [] (fun j x' q => (rp1L w k cl sq p1 n1 c1 gone p2 n2 c2 p3 n3 c3 TX ss).getD j (fun _ _ => True) x' q) (fun _ => false) (fun f => #[.agg #[.string k, .int .i64 cl, .int .i64 sq, .slice p1 n1 c1, .bool gone, .slice p2 n2 c2, .slice p3 n3 c3], .pointer (some ⟨w.heap.size, 0, none⟩), f 2, f 3, .agg #[.string k, .int .i64 cl, .int .i64 sq, .slice p1 n1 c1, .bool gone, .slice p2 n2 c2, .slice p3 n3 c3], .bool true, .bool false, f 7, f 8, f 9, f 10, f 11, f 12]) (fun f => rfl) (by kernel_rfl) (by kernel_rfl) (by kernel_rfl) (by kernel_rfl) (by kernel_rfl) (rp1S _ _ _ _ _ _ _ _ _ _ _ _ _ _ _ _) (fun _ _ _ h => by cases h) ?_ ?_
    · refine steps2_cons ?_ ?_
      · intro f w1 hb hd Q hK
        clear hd
        have hK := Lib.hid hK
        obtain ⟨c0, c1, c2, c3, c4, c5, c6⟩ := blk7 (hG.below hb)
        go_wp2
        exact hK.out _ _ rfl (Below.refl _ _) (fun h => by cases h)
      refine steps2_cons ?_ ?_
      · intro f w1 hb hd Q hK
        have e7 : f 7 = .agg #[.string k, .int .i64 cl, .int .i64 sq, .slice p1 n1 c1, .bool gone, .slice p2 n2 c2, .slice p3 n3 c3] := hd.1 rfl
        clear hd
        simp only [e7] at hK
        have hK := Lib.hid hK
        go_wp2_with fail
        refine (htx.out _ hb).mono ?_
        intro e w2 h
        obtain ⟨r, m, c2, rfl, hm, hR, hb2, -⟩ := h.l
        replace hm := Lib.hid hm
        clear h
        go_wp2
        exact hK.out _ _ ⟨_, _, _, rfl, hm.out, hR⟩ hb2 (fun h => by cases h)
      refine steps2_cons ?_ ?_
      · intro f w1 hb hd Q hK
        clear hd
        have hK := Lib.hid hK
        go_wp2
        exact hK.out _ _ rfl (Below.refl _ _) (fun h => by cases h)
      refine steps2_cons ?_ ?_
      · intro f w1 hb hd Q hK
        have e9 : f 9 = .pointer (some ⟨w.heap.size, 6, none⟩) := hd.1 rfl
        clear hd
        simp only [e9] at hK
        have hK := Lib.hid hK
        have c0 := (hG.below hb).cell 6
        simp only [List.getElem?_toArray, List.getElem?_cons_zero, List.getElem?_cons_succ] at c0
        go_wp2
        exact hK.out _ _ rfl (Below.refl _ _) (fun h => by cases h)
      refine steps2_cons ?_ ?_
      · intro f w1 hb hd Q hK
        obtain ⟨p8, n8, c8, e8, l8, b8⟩ := (hd.1 rfl : SlL (TX) (f 8) w1)
        replace l8 := Lib.hid l8
        replace b8 := Lib.hid b8
        have e10 : f 10 = .slice p3 n3 c3 := hd.2.1 rfl
        clear hd
        simp only [e8, e10] at hK
        have hK := Lib.hid hK
        have hs1 := hS.out.below hb
        go_wp2
        exact hK.out _ _ ⟨_, rfl, parts2 (Blk.new _ _ _) l8.out hn3.out (b8.out.below ((Below.refl _ _).alloc (Nat.le_refl _) _)) (hs1.below ((Below.refl _ _).alloc (Nat.le_refl _) _))⟩ ((Below.refl _ _).alloc (Nat.le_refl _) _) (fun h => by cases h)
      refine steps2_cons ?_ ?_
      · intro f w1 hb hd Q hK
        obtain ⟨g11, e11, po11⟩ := (hd.1 rfl : PaL 2 ([TX, ss]) (f 11) w1)
        replace po11 := Lib.hid po11
        clear hd
        simp only [e11] at hK
        have hK := Lib.hid hK
        have hsz := Nat.le_trans hB hb.size
        go_wp2_with fail
        refine (rjoin_o _ 0 2 2 [TX, ss] rfl hPl.out (by decide) _ po11.out).mono ?_
        rintro e w2 ⟨v, n, rfl, ho, hb2⟩
        have ho2 := Lib.hid (own_mono ho hsz)
        clear ho
        go_wp2
        exact hK.out _ _ ⟨_, _, rfl, ho2.out⟩ hb2 (fun h => by cases h)
      refine steps2_cons ?_ ?_
      · intro f w1 hb hd Q hK
        obtain ⟨v12, n12, e12, ow12⟩ := (hd.1 rfl : OwL w.heap.size ([TX, ss].flatten) (f 12) w1)
        replace ow12 := Lib.hid ow12
        clear hd
        simp only [e12] at hK
        have hK := Lib.hid hK
        go_wp2
        exact hK.out _ _ ⟨_, _, rfl, ow12.out⟩ (Below.refl _ _) (fun h => by cases h)
      refine steps2_cons ?_ ?_
      · intro f w1 hb hd Q hK
        clear hd
        have hK := Lib.hid hK
        go_wp2
        exact hK.out _ _ rfl (Below.refl _ _) (fun h => by cases h)
      trivial
    · intro f w2 hb2 hf hne
      refine wpList_nil ?_
      obtain ⟨v2, n2', d2, ow2⟩ : OwL w.heap.size ([TX, ss].flatten) (f 2) w2 := hf 6 _ _ (by decide) rfl rfl
      have d3 : f 3 = .int .i64 0 := hf 7 _ _ (by decide) rfl rfl
      clear hf hne
      have hb9 := hb0.trans (hb2.mono hB)
      simp only [d2, d3]
      clear d2 d3
      rw [show [TX, ss].flatten = TX ++ ss by simp] at ow2
      replace ow2 := Lib.hid ow2
      go_wp2
      go_returns
      exact ⟨v2, _, by rw [h2.out]; rfl, by rw [h1.out]; exact ow2.out, hb9⟩
def rp2L (w : World) (k : ByteArray) (cl sq : Int) (p1 : Option Addr) (n1 c1 : Nat) (gone : Bool) (p2 : Option Addr) (n2 c2 : Nat) (p3 : Option Addr) (n3 c3 : Nat) (TX ss : List Int) : List (Value → World → Prop) := [
  Eq1 (.agg #[.string k, .int .i64 cl, .int .i64 sq, .slice p1 n1 c1, .bool gone, .slice p2 n2 c2, .slice p3 n3 c3]),
  SlL (TX),
  Eq1 (.pointer (some ⟨w.heap.size, 6, none⟩)),
  Eq1 (.slice p3 n3 c3),
  PaL 2 ([TX, ss]),
  OwL w.heap.size ([TX, ss].flatten),
  OwL w.heap.size ([TX, ss].flatten),
  Eq1 (.int .i64 0)]
theorem rp2S (w : World) (k : ByteArray) (cl sq : Int) (p1 : Option Addr) (n1 c1 : Nat) (gone : Bool) (p2 : Option Addr) (n2 c2 : Nat) (p3 : Option Addr) (n3 c3 : Nat) (TX ss : List Int) : ∀ j x' q q', (rp2L w k cl sq p1 n1 c1 gone p2 n2 c2 p3 n3 c3 TX ss).getD j (fun _ _ => True) x' q → Below q.heap.size q q' → (rp2L w k cl sq p1 n1 c1 gone p2 n2 c2 p3 n3 c3 TX ss).getD j (fun _ _ => True) x' q' := by
  refine sta_all _ ?_
  simp only [rp2L, List.mem_cons, forall_eq_or_imp, List.not_mem_nil, false_implies, implies_true, and_true]
  exact ⟨sta_eq _, sta_slL _, sta_eq _, sta_eq _, sta_paL _ _, sta_owL _ _, sta_owL _ _, sta_eq _⟩
set_option maxRecDepth 20000 in
set_option maxHeartbeats 4000000 in
theorem put_c (k : ByteArray) (cl sq : Int) (p1 : Option Addr) (n1 c1 : Nat) (gone : Bool) (p2 : Option Addr) (n2 c2 : Nat) (p3 : Option Addr) (n3 c3 : Nat) (ds vs ss : List Int) (hn1 : n1 ≤ 400000) (hn2 : n2 = vs.length) (hn3 : n3 = ss.length) (w : World) (hD : DotsL w p1 n1 ds) (hV : BytesL w p2 vs) (hS : BytesL w p3 ss) :
    Calls Tryz.prog 8 #[.agg #[.string k, .int .i64 cl, .int .i64 sq, .slice p1 n1 c1, .bool gone, .slice p2 n2 c2, .slice p3 n3 c3]] w (PostPt (putL k cl sq n1 ds gone vs ss) (putE k cl sq n1 ds gone vs ss) w) := by
  have hrt := fun w' hb => recRight_c k cl sq p1 n1 c1 gone p2 n2 c2 p3 n3 c3 ds (by omega) w' (hD.below (w := w) (w' := w') hb)
  have htx := fun w' hb => recText_o k cl sq p1 n1 c1 gone p2 n2 c2 p3 n3 c3 ds vs hn1 hn2 w' (hD.below (w := w) (w' := w') hb) (hV.below hb)
  have hyes : rightR k.size cl sq n1 ds gone n2 n3 = true → putL k cl sq n1 ds gone vs ss = txtL k cl sq n1 ds gone vs ++ ss ∧ putE k cl sq n1 ds gone vs ss = 0 ∧ ss.length = 64 ∧ (txtL k cl sq n1 ds gone vs).length ≤ 90000000 := fun h => put_yes hn1 hn2 hn3 h
  have hno : rightR k.size cl sq n1 ds gone n2 n3 = false → putL k cl sq n1 ds gone vs ss = [] ∧ putE k cl sq n1 ds gone vs ss = 4 := fun h => put_no hn2 hn3 h
  replace hrt := Lib.hid hrt
  replace htx := Lib.hid htx
  replace hyes := Lib.hid hyes
  replace hno := Lib.hid hno
  replace hS := Lib.hid hS
  replace hn3 := Lib.hid hn3
  clear hD hV hn2
  obtain ⟨TX, hTX⟩ : ∃ TX, TX = txtL k cl sq n1 ds gone vs := ⟨_, rfl⟩
  rw [← hTX] at htx hyes
  clear hTX
  go_enter Tryz.func8, Tryz.ntmps8
  go_wp2_with fail
  refine calls_at (fun W0 hW => ?_)
  have hG : Blk W0 w.heap.size 25 #[.string k, .int .i64 cl, .int .i64 sq, .slice p1 n1 c1, .bool gone, .slice p2 n2 c2, .slice p3 n3 c3] := by rw [hW]; exact Blk.new _ _ _
  have hb0 : Below w.heap.size w W0 := by rw [hW]; go_grown
  clear hW
  refine (hrt.out _ hb0).mono ?_
  rintro e w1 ⟨rfl, hb⟩
  replace hG := hG.below hb
  replace hb0 := hb0.trans (hb.mono hb0.size)
  clear hb hrt
  cases hr : rightR k.size cl sq n1 ds gone n2 n3
  · obtain ⟨h1, h2⟩ := hno.out hr
    replace h1 := Lib.hid h1
    replace h2 := Lib.hid h2
    clear hr hyes hno
    go_wp2
    go_returns
    exact ⟨.slice none 0 0, 0, by rw [h2.out]; rfl, by rw [h1.out]; exact ownB_nil, hb0⟩
  · obtain ⟨h1, h2, h3, h4⟩ := hyes.out hr
    have hPl : [TX, ss].flatten.length ≤ 100000000 := by simp; omega
    have hB := hb0.size
    have htx2 := fun w' (hb : Below w1.heap.size w1 w') => htx.out w' (hb0.trans (hb.mono hb0.size))
    replace htx := Lib.hid htx2
    replace hS := Lib.hid (hS.out.below hb0)
    replace hPl := Lib.hid hPl
    replace h1 := Lib.hid h1
    replace h2 := Lib.hid h2
    clear hr hyes hno htx2 h3 h4
    go_wp2
    refine wp_region_grow2 8 (fun k => (Nat.ble 2 k && Nat.ble k 3) || (Nat.ble 7 k && Nat.ble k 12)) _ [] (fun j x' q => (rp2L w k cl sq p1 n1 c1 gone p2 n2 c2 p3 n3 c3 TX ss).getD j (fun _ _ => True) x' q) (fun _ => false) (fun f => #[.agg #[.string k, .int .i64 cl, .int .i64 sq, .slice p1 n1 c1, .bool gone, .slice p2 n2 c2, .slice p3 n3 c3], .pointer (some ⟨w.heap.size, 0, none⟩), f 2, f 3, .agg #[.string k, .int .i64 cl, .int .i64 sq, .slice p1 n1 c1, .bool gone, .slice p2 n2 c2, .slice p3 n3 c3], .bool true, .bool false, f 7, f 8, f 9, f 10, f 11, f 12]) (fun f => rfl) (by kernel_rfl) (by kernel_rfl) (by kernel_rfl) (by kernel_rfl) (by kernel_rfl) (rp2S _ _ _ _ _ _ _ _ _ _ _ _ _ _ _ _) (fun _ _ _ h => by cases h) ?_ ?_
    · refine steps2_cons ?_ ?_
      · intro f w1 hb hd Q hK
        clear hd
        have hK := Lib.hid hK
        obtain ⟨c0, c1, c2, c3, c4, c5, c6⟩ := blk7 (hG.below hb)
        go_wp2
        exact hK.out _ _ rfl (Below.refl _ _) (fun h => by cases h)
      refine steps2_cons ?_ ?_
      · intro f w1 hb hd Q hK
        have e7 : f 7 = .agg #[.string k, .int .i64 cl, .int .i64 sq, .slice p1 n1 c1, .bool gone, .slice p2 n2 c2, .slice p3 n3 c3] := hd.1 rfl
        clear hd
        simp only [e7] at hK
        have hK := Lib.hid hK
        go_wp2_with fail
        refine (htx.out _ hb).mono ?_
        intro e w2 h
        obtain ⟨r, m, c2, rfl, hm, hR, hb2, -⟩ := h.l
        replace hm := Lib.hid hm
        clear h
        go_wp2
        exact hK.out _ _ ⟨_, _, _, rfl, hm.out, hR⟩ hb2 (fun h => by cases h)
      refine steps2_cons ?_ ?_
      · intro f w1 hb hd Q hK
        clear hd
        have hK := Lib.hid hK
        go_wp2
        exact hK.out _ _ rfl (Below.refl _ _) (fun h => by cases h)
      refine steps2_cons ?_ ?_
      · intro f w1 hb hd Q hK
        have e9 : f 9 = .pointer (some ⟨w.heap.size, 6, none⟩) := hd.1 rfl
        clear hd
        simp only [e9] at hK
        have hK := Lib.hid hK
        have c0 := (hG.below hb).cell 6
        simp only [List.getElem?_toArray, List.getElem?_cons_zero, List.getElem?_cons_succ] at c0
        go_wp2
        exact hK.out _ _ rfl (Below.refl _ _) (fun h => by cases h)
      refine steps2_cons ?_ ?_
      · intro f w1 hb hd Q hK
        obtain ⟨p8, n8, c8, e8, l8, b8⟩ := (hd.1 rfl : SlL (TX) (f 8) w1)
        replace l8 := Lib.hid l8
        replace b8 := Lib.hid b8
        have e10 : f 10 = .slice p3 n3 c3 := hd.2.1 rfl
        clear hd
        simp only [e8, e10] at hK
        have hK := Lib.hid hK
        have hs1 := hS.out.below hb
        go_wp2
        exact hK.out _ _ ⟨_, rfl, parts2 (Blk.new _ _ _) l8.out hn3.out (b8.out.below ((Below.refl _ _).alloc (Nat.le_refl _) _)) (hs1.below ((Below.refl _ _).alloc (Nat.le_refl _) _))⟩ ((Below.refl _ _).alloc (Nat.le_refl _) _) (fun h => by cases h)
      refine steps2_cons ?_ ?_
      · intro f w1 hb hd Q hK
        obtain ⟨g11, e11, po11⟩ := (hd.1 rfl : PaL 2 ([TX, ss]) (f 11) w1)
        replace po11 := Lib.hid po11
        clear hd
        simp only [e11] at hK
        have hK := Lib.hid hK
        have hsz := Nat.le_trans hB hb.size
        go_wp2_with fail
        refine (join_o _ 0 2 2 [TX, ss] rfl hPl.out (by decide) _ po11.out).mono ?_
        rintro e w2 ⟨v, n, rfl, ho, hb2⟩
        have ho2 := Lib.hid (own_mono ho hsz)
        clear ho
        go_wp2
        exact hK.out _ _ ⟨_, _, rfl, ho2.out⟩ hb2 (fun h => by cases h)
      refine steps2_cons ?_ ?_
      · intro f w1 hb hd Q hK
        obtain ⟨v12, n12, e12, ow12⟩ := (hd.1 rfl : OwL w.heap.size ([TX, ss].flatten) (f 12) w1)
        replace ow12 := Lib.hid ow12
        clear hd
        simp only [e12] at hK
        have hK := Lib.hid hK
        go_wp2
        exact hK.out _ _ ⟨_, _, rfl, ow12.out⟩ (Below.refl _ _) (fun h => by cases h)
      refine steps2_cons ?_ ?_
      · intro f w1 hb hd Q hK
        clear hd
        have hK := Lib.hid hK
        go_wp2
        exact hK.out _ _ rfl (Below.refl _ _) (fun h => by cases h)
      trivial
    · intro f w2 hb2 hf hne
      refine wpList_nil ?_
      obtain ⟨v2, n2', d2, ow2⟩ : OwL w.heap.size ([TX, ss].flatten) (f 2) w2 := hf 6 _ _ (by decide) rfl rfl
      have d3 : f 3 = .int .i64 0 := hf 7 _ _ (by decide) rfl rfl
      clear hf hne
      have hb9 := hb0.trans (hb2.mono hB)
      simp only [d2, d3]
      clear d2 d3
      rw [show [TX, ss].flatten = TX ++ ss by simp] at ow2
      replace ow2 := Lib.hid ow2
      go_wp2
      go_returns
      exact ⟨v2, _, by rw [h2.out]; rfl, by rw [h1.out]; exact ow2.out, hb9⟩
end Go.Proofs.YtiimojhdpmkeoaaGreat
