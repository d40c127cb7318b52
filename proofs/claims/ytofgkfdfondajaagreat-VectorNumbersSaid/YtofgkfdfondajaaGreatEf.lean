/- The walk of the reference's Add. -/
import Derived.Test.YtofgkfdfondajaaGreatRj
import Derived.Test.YtofgkfdfondajaaGreatEc
namespace Go.Proofs.YtofgkfdfondajaaGreat
open Go.RowKit
def nA (n : Nat) : Nat → Nat | 0 => n | _ + 1 => 1
def lA (ds ls : List Int) : Nat → List Int | 0 => ds | i + 1 => [lD ls (i * 2), lD ls (i * 2 + 1)]
theorem right_one (x y : Int) : rightD 1 (lD [x, y]) = okD x y := by
  cases h : okD x y
  · exact decide_eq_false (fun hr => by have := (hr 0 (by decide)).1; rw [show lD [x, y] (0 * 2) = x from rfl, show lD [x, y] (0 * 2 + 1) = y from rfl, h] at this; cases this)
  · exact decide_eq_true (fun i hi => by
      obtain rfl : i = 0 := by omega
      exact ⟨h, fun h => by omega⟩)
theorem joinV_add (n : Nat) (ds ls : List Int) : ∀ m, joinV (nA n) (lA ds ls) (m + 1) = upsV ls m (upsV ds n (fun _ => 0))
  | 0 => rfl
  | m + 1 => by
    have ih := joinV_add n ds ls m
    show upsV [lD ls (m * 2), lD ls (m * 2 + 1)] 1 (joinV (nA n) (lA ds ls) (m + 1)) = upV (upsV ls m (upsV ds n (fun _ => 0))) (lD ls (m * 2)) (lD ls (m * 2 + 1))
    rw [ih]
    rfl
theorem ups_congr {ls : List Int} {V V' : Int → Int} (h : ∀ q, V q = V' q) : ∀ m q, upsV ls m V q = upsV ls m V' q
  | 0, q => h q
  | m + 1, q => by simp only [upsV, upV]; rw [ups_congr h m q]
theorem joinA_add (n : Nat) (ds : List Int) (m : Nat) (ls : List Int) (q : Int) : joinA (nA n) (lA ds ls) (m + 1) q = addA n ds m ls q := by
  have hiff : (∀ i, i < m + 1 → rightD (nA n i) (lD (lA ds ls i)) = true) ↔ (rightD n (lD ds) = true ∧ anyF (fun x y => !okD x y) m (lD ls) = false) := by
    constructor
    · intro h
      refine ⟨h 0 (by omega), decide_eq_false (fun ⟨i, hi, h2⟩ => ?_)⟩
      have h3 : rightD 1 (lD [lD ls (i * 2), lD ls (i * 2 + 1)]) = true := h (i + 1) (by omega)
      rw [right_one] at h3
      have h4 : (!okD (lD ls (i * 2)) (lD ls (i * 2 + 1))) = true := h2
      rw [h3] at h4
      cases h4
    · intro ⟨h1, h2⟩ i hi
      cases i with
      | zero => exact h1
      | succ i =>
        show rightD 1 (lD [lD ls (i * 2), lD ls (i * 2 + 1)]) = true
        rw [right_one]
        have h3 := of_decide_eq_false h2
        cases h4 : okD (lD ls (i * 2)) (lD ls (i * 2 + 1))
        · exact absurd ⟨i, by omega, by show (!okD _ _) = true; rw [h4]; rfl⟩ h3
        · rfl
  unfold joinA addA
  by_cases h : rightD n (lD ds) = true ∧ anyF (fun x y => !okD x y) m (lD ls) = false
  · rw [if_pos h, if_pos (hiff.2 h), joinV_add]
    have hR : RightD n (lD ds) := of_decide_eq_true h.1
    exact ups_congr (fun q => by rw [ups_right (fun _ => Int.le_refl _) hR]; have := valD_nn hR q; omega) m q
  · rw [if_neg h, if_neg (fun h2 => h (hiff.1 h2))]
/-- a row lies apart from a block -/
def Far (bad : Option Nat) (w : World) (P : Option Addr) (m : Nat) : Prop := 0 < m → ∀ ad, P = some ad → some ad.block ≠ bad ∧ ad.block < w.heap.size
/-- the rows that Add makes: vs, told -/
def RaS (w : World) (bad : Option Nat) (n : Nat) (ds ls : List Int) (vs : List Value) : Prop := ∀ i, i < vs.length → ∃ P C, vs.getD i undef = .slice P (nA n i) C ∧ DotsL w P (nA n i) (lA ds ls i) ∧ Far bad w P (nA n i)
theorem RaS.below {w w' : World} {bad : Option Nat} {n : Nat} {ds ls : List Int} {vs : List Value} (h : RaS w bad n ds ls vs) (hb : Below w.heap.size w w') : RaS w' bad n ds ls vs := fun i hi => by
  obtain ⟨P, C, h1, h2, h3⟩ := h i hi
  exact ⟨P, C, h1, h2.below hb, fun h0 ad e => ⟨(h3 h0 ad e).1, Nat.lt_of_lt_of_le (h3 h0 ad e).2 hb.size⟩⟩
theorem RaS.snoc {w : World} {bad : Option Nat} {n : Nat} {ds ls : List Int} {vs : List Value} (h : RaS w bad n ds ls vs) {P : Option Addr} {C k : Nat} (hk : vs.length = k + 1) (hD : DotsL w P 1 [lD ls (k * 2), lD ls (k * 2 + 1)]) (hF : Far bad w P 1) : RaS w bad n ds ls (vs ++ [.slice P 1 C]) := fun i hi => by
  by_cases e : i < vs.length
  · obtain ⟨P', C', h1, h2, h3⟩ := h i e
    exact ⟨P', C', by rw [← h1]; simp [List.getD_eq_getElem?_getD, e, List.getElem?_append_left], h2, h3⟩
  · have : i = k + 1 := by simp at hi; omega
    subst this
    exact ⟨P, C, by simp [List.getD_eq_getElem?_getD, hk, nA], hD, hF⟩
theorem RaS.grown {w w' : World} {bad bad' : Option Nat} {n : Nat} {ds ls : List Int} {vs : List Value} (h : RaS w bad n ds ls vs) (hg : w.grownBy w' bad) (hb : bad' = bad ∨ bad' = some w.heap.size) : RaS w' bad' n ds ls vs := fun i hi => by
  obtain ⟨P, C, h1, h2, h3⟩ := h i hi
  refine ⟨P, C, h1, h2.grown' hg (fun h0 ad e => (h3 h0 ad e).1), fun h0 ad e => ⟨fun e2 => ?_, Nat.lt_of_lt_of_le (h3 h0 ad e).2 hg.size⟩⟩
  rcases hb with rfl | rfl
  · exact (h3 h0 ad e).1 e2
  · injection e2 with e2
    have := (h3 h0 ad e).2
    omega
theorem choosePC {vs : List Value} {w : World} {N : Nat → Nat} {L : Nat → List Int} (h : ∀ i, i < vs.length → ∃ P C, vs.getD i undef = .slice P (N i) C ∧ DotsL w P (N i) (L i)) : ∃ (P : Nat → Option Addr) (C : Nat → Nat), ∀ i, i < vs.length → vs.getD i undef = .slice (P i) (N i) (C i) ∧ DotsL w (P i) (N i) (L i) := by
  refine ⟨fun i => if hi : i < vs.length then (h i hi).choose else none, fun i => if hi : i < vs.length then (h i hi).choose_spec.choose else 0, fun i hi => ?_⟩
  simp only [dif_pos hi]
  exact (h i hi).choose_spec.choose_spec
theorem pv_rows {B : Nat} {w : World} {v : Value} {vs : List Value} (h : PV B w v vs) {F : Nat → Value} (hF : ∀ i, i < vs.length → vs.getD i undef = F i) : ∃ p c, v = .slice p vs.length c ∧ RowAt w p vs.length F := by
  rcases h with ⟨rfl, rfl⟩ | ⟨L, C, rfl, h2, h3⟩
  · exact ⟨none, 0, rfl, fun h => absurd h (by simp)⟩
  · exact ⟨_, C, rfl, fun _ => ⟨L, 0, rfl, h3.lt, fun j hj => by rw [Nat.zero_add, h3.cells j hj, hF j hj]⟩⟩
set_option maxRecDepth 20000 in
set_option maxHeartbeats 4000000 in
theorem radd_c (p : Option Addr) (n c : Nat) (ds : List Int) (q : Option Addr) (m c2 : Nat) (ls : List Int) (hn : n ≤ 1000) (hm : m ≤ 1000) (w : World) (hD : DotsL w p n ds) (hE : DotsL w q m ls) :
    Calls Tryz.prog 12 #[.slice p n c, .slice q m c2] w (PostV (addA n ds m ls) w) := by
  have hP1 : PV w.heap.size (w.alloc (.cells #[.slice p n c] 23)) (.slice (some ⟨w.heap.size, 0, none⟩) 1 1) [.slice p n c] := .inr ⟨w.heap.size, 1, rfl, Nat.le_refl _, ⟨_, heap_alloc_new w _, Nat.le_refl _, by unfold maxLen; omega, rfl, rfl⟩⟩
  have hb1 : Below w.heap.size w (w.alloc (.cells #[.slice p n c] 23)) := (Below.refl _ _).alloc (Nat.le_refl _) _
  have hS1 : RaS (w.alloc (.cells #[.slice p n c] 23)) (some w.heap.size) n ds ls [.slice p n c] := fun i hi => by
    obtain rfl : i = 0 := by simpa using hi
    refine ⟨p, c, rfl, hD.below hb1, fun h0 ad e => ?_⟩
    obtain ⟨g, o, e2, hg, _⟩ := hD.2 (by have : 0 < n := h0; omega)
    rw [e2] at e
    injection e with e
    subst e
    exact ⟨fun e => by injection e with e; have e : g = w.heap.size := e; omega, by show g < _; simp; omega⟩
  have hfin : ∀ vs v wr, vs.length = m + 1 → PV w.heap.size wr v vs → RaS wr v.ownBlock n ds ls vs → Below w.heap.size w wr → ∃ pp cc, v = .slice pp (m + 1) cc ∧ Calls Tryz.prog 11 #[.slice pp (m + 1) cc] wr (PostV (addA n ds m ls) w) := fun vs v wr hl hV hS hb => by
    obtain ⟨P, C, hPC⟩ := choosePC (fun i hi => by obtain ⟨P, C, h1, h2, _⟩ := hS i hi; exact ⟨P, C, h1, h2⟩)
    obtain ⟨pp, cc, rfl, hRA⟩ := pv_rows hV (F := fun i => .slice (P i) (nA n i) (C i)) (fun i hi => (hPC i hi).1)
    rw [hl] at hRA hPC
    refine ⟨pp, cc, by rw [hl], (rjoin_c pp (m + 1) cc P (nA n) C (lA ds ls) (by omega) (fun i hi => ?_) wr hRA (fun i hi => (hPC i hi).2)).mono (fun e w' h => ?_)⟩
    · cases i with
      | zero => exact hn
      | succ i => exact (by decide : 1 ≤ 1000)
    · obtain ⟨q', m', cc', es, h1, h2, h3, h4, h5⟩ := h
      exact ⟨q', m', cc', es, h1, own_mono h2 hb.size, h3, fun r => by rw [h4, joinA_add], hb.trans (h5.mono hb.size)⟩
  replace hfin := Lib.hid hfin
  replace hP1 := Lib.hid hP1
  replace hS1 := Lib.hid hS1
  replace hE := Lib.hid hE
  clear hD
  go_enter Tryz.func12, Tryz.ntmps12
  go_wp2
  go_loopw [5, 6] (fun v i wr => ∃ k vs, k ≤ m ∧ i = .int .i64 (k : Nat) ∧ vs.length = k + 1 ∧ PV w.heap.size wr v vs ∧ RaS wr v.ownBlock n ds ls vs ∧ Below w.heap.size w wr) (fun _ i _ => (m - intOf i).toNat)
  case atStart => exact ⟨0, _, Nat.zero_le _, rfl, rfl, hP1.out, hS1.out, hb1⟩
  case round =>
    clear hP1 hS1 hb1
    obtain ⟨k, vs, hk, hi, hl, hV, hS, hb⟩ := hrel
    subst hi
    by_cases he : k = m
    · subst he
      obtain ⟨pp, cc, hv, hc⟩ := hfin.out vs _ wr hl hV hS hb
      subst hv
      replace hc := Lib.hid hc
      clear hV hS hk hfin hl
      go_wp2_with fail
      refine hc.out.mono ?_
      rintro e w2 ⟨q', m', cc', es, rfl, hrest⟩
      replace hrest := Lib.hid hrest
      clear hc
      go_wp2
      go_returns
      exact ⟨q', m', cc', es, rfl, hrest.out⟩
    · have hk0 : (0 : Int) ≤ (k : Int) := by omega
      have hk1 : (k : Int) < (m : Int) := by omega
      have hk2 : k < m := by omega
      obtain ⟨g, o, rfl, hg, hc⟩ := hE.out.2 (by omega)
      have c0 : wr.cell? ⟨g, o + k * 2, none⟩ = some (.int .i64 (lD ls (k * 2))) := (hb.cell (p := ⟨g, o + k * 2, none⟩) hg).trans (hc (k * 2) (by omega))
      have c1 : wr.cell? ⟨g, o + k * 2 + 1, none⟩ = some (.int .i64 (lD ls (k * 2 + 1))) := by rw [Nat.add_assoc]; exact (hb.cell (p := ⟨g, o + (k * 2 + 1), none⟩) hg).trans (hc (k * 2 + 1) (by omega))
      have hsn : ∀ w' bad, DotsL w' (some ⟨wr.heap.size, 0, none⟩) 1 [lD ls (k * 2), lD ls (k * 2 + 1)] → RaS w' bad n ds ls vs → Far bad w' (some ⟨wr.heap.size, 0, none⟩) 1 → RaS w' bad n ds ls (vs ++ [.slice (some ⟨wr.heap.size, 0, none⟩) 1 1]) := fun w' bad h1 h2 h3 => h2.snoc hl h1 h3
      replace hsn := Lib.hid hsn
      generalize lD ls (k * 2) = x at *
      generalize lD ls (k * 2 + 1) = y at *
      have hba : Below wr.heap.size wr ((wr.alloc (.cells #[.int .i64 x, .int .i64 y] 35)).alloc (.cells #[.slice (some ⟨wr.heap.size, 0, none⟩) 1 1] 23)) := ((Below.refl _ _).alloc (Nat.le_refl _) _).alloc (by simp) _
      have hVa := hV.below hba
      have hSa := hS.below hba
      have hDa : DotsL ((wr.alloc (.cells #[.int .i64 x, .int .i64 y] 35)).alloc (.cells #[.slice (some ⟨wr.heap.size, 0, none⟩) 1 1] 23)) (some ⟨wr.heap.size, 0, none⟩) 1 [x, y] := dots_blk 1 _ ((Blk.new wr _ _).alloc _) rfl
      have hca : ((wr.alloc (.cells #[.int .i64 x, .int .i64 y] 35)).alloc (.cells #[.slice (some ⟨wr.heap.size, 0, none⟩) 1 1] 23)).cell? ⟨wr.heap.size + 1, 0, none⟩ = some (.slice (some ⟨wr.heap.size, 0, none⟩) 1 1) := (blk_at (by simp) (Blk.new (wr.alloc _) _ _) : Blk _ (wr.heap.size + 1) 23 #[.slice (some ⟨wr.heap.size, 0, none⟩) 1 1]).cell 0
      have hsz := hb.size
      have hown := fun k hk => hV.own k hk
      have hSn := Lib.hid (hsn.out _ _ hDa hSa (fun _ ad e => by injection e with e; subst e; exact ⟨fun e2 => by have := (hown _ e2.symm).2; exact absurd this (Nat.lt_irrefl _), by show wr.heap.size < _; simp; omega⟩))
      have hbx : Below w.heap.size w ((wr.alloc (.cells #[.int .i64 x, .int .i64 y] 35)).alloc (.cells #[.slice (some ⟨wr.heap.size, 0, none⟩) 1 1] 23)) := hb.trans (hba.mono hb.size)
      generalize hWa : ((wr.alloc (.cells #[.int .i64 x, .int .i64 y] 35)).alloc (.cells #[.slice (some ⟨wr.heap.size, 0, none⟩) 1 1] 23)) = wa at *
      replace hWa := Lib.hid hWa
      replace hVa := Lib.hid hVa
      replace hca := Lib.hid hca
      replace hown := Lib.hid hown
      replace hl := Lib.hid hl
      clear hV hS hSa hDa hsn hc
      go_wp2_with (at_builtin; rw [hWa.out]; refine wpList_appV rfl rfl rfl hVa.out rfl (.slice (some ⟨wr.heap.size, 0, none⟩) 1 1) rfl hca.out (by rw [hl.out]; omega) hbx.size ?_; intro v4 w4 hV4 hg4 hat4; have hb4 : Below w.heap.size w w4 := hbx.grown hg4 hbx.size (fun k hk => (hown.out k hk).1); have hS4 := Lib.hid (hSn.out.grown hg4 hat4); replace hV4 := Lib.hid hV4; clear hg4 hat4)
      exact ⟨⟨k + 1, _, by omega, by rw [Int.natCast_add]; rfl, by rw [List.length_append, hl.out]; rfl, hV4.out, hS4.out, hb4⟩, by simp [intOf]; omega⟩
end Go.Proofs.YtofgkfdfondajaaGreat
