/- The walk of joined's put. -/
import Derived.Test.YtofgkfdfondajaaGreatWk
import Derived.Test.YtofgkfdfondajaaGreatWs
namespace Go.Proofs.YtofgkfdfondajaaGreat
open Go.RowKit
/-- a dot's put, told of what a vector says -/
def upV (V : Int → Int) (c s : Int) (q : Int) : Int := if q = c then max (V q) s else V q
def upsV (ls : List Int) : Nat → (Int → Int) → Int → Int
  | 0, V => V
  | i + 1, V => upV (upsV ls i V) (lD ls (i * 2)) (lD ls (i * 2 + 1))
/-- j's dots are a vector of one's own that says V -/
def JoinS (B J : Nat) (V : Int → Int) (w : World) : Prop := ∃ v m ds, Blk w J 41 #[v] ∧ w.ownsRow B 35 2 v m (dotL ds) ∧ RightD m (lD ds) ∧ (∀ q, valD m (lD ds) q = V q) ∧ (B ≤ J ∧ v.ownBlock ≠ some J) ∧ B ≤ w.heap.size
theorem right_le8 {m : Nat} {D : Nat → Int} (h : RightD m D) : m ≤ 8 := by
  have hge : ∀ i, i < m → (i : Int) + 1 ≤ D (i * 2) := fun i => by
    induction i with
    | zero => intro hi; have := (h.pos hi).1; omega
    | succ i ih =>
      intro hi
      have h1 := ih (by omega)
      have h2 := (h (i + 1) hi).2 (by omega)
      rw [Nat.add_sub_cancel] at h2
      omega
  rcases Nat.eq_zero_or_pos m with h0 | h0
  · omega
  · have h1 := hge (m - 1) (by omega)
    have h2 := (h.pos (show m - 1 < m by omega)).2.1
    omega
theorem RowAt.grown' {w w' : World} {p : Option Addr} {m : Nat} {f : Nat → Value} {row : Option Nat} (h : RowAt w p m f) (hg : w.grownBy w' row) (hne : 0 < m → ∀ ad, p = some ad → some ad.block ≠ row) : RowAt w' p m f := fun hm => by
  obtain ⟨g, o, e, hlt, hc⟩ := h hm
  exact ⟨g, o, e, Nat.lt_of_lt_of_le hlt hg.size, fun j hj => (hg.cell_far ⟨g, o + j, none⟩ hlt (by have := hne hm _ e; exact this)).trans (hc j hj)⟩
theorem DotsL.grown' {w w' : World} {p : Option Addr} {n : Nat} {ds : List Int} {row : Option Nat} (h : DotsL w p n ds) (hg : w.grownBy w' row) (hne : 0 < n → ∀ ad, p = some ad → some ad.block ≠ row) : DotsL w' p n ds := ⟨h.1, RowAt.grown' h.2 hg (fun hm => hne (by omega))⟩
theorem below_kept {w w' : World} {base : Nat} {e : TypeId} {size : Nat} {v : Value} {n : Nat} {xs : List Value} (h : w.ownsRow base e size v n xs) (hb : Below w.heap.size w w') : w'.ownsRow base e size v n xs := by
  refine ⟨h.1, ?_⟩
  rcases h.2 with hn | ⟨g, cap, cur, rfl, hg, hgg, rest⟩
  · exact .inl hn
  · exact .inr ⟨g, cap, cur, rfl, hg, (hb.block g (Array.getElem?_eq_some_iff.1 hgg).1).trans hgg, rest⟩
theorem own_setCell {w : World} {base : Nat} {e : TypeId} {size : Nat} {v : Value} {n : Nat} {xs : List Value} {p : Addr} (h : w.ownsRow base e size v n xs) (hp : v.ownBlock ≠ some p.block) (u : Value) : (w.setCell p u).ownsRow base e size v n xs := by
  refine ⟨h.1, ?_⟩
  rcases h.2 with hn | ⟨g, cap, cur, rfl, hg, hgg, rest⟩
  · exact .inl hn
  · exact .inr ⟨g, cap, cur, rfl, hg, (Below.heap_setCell w p u g (fun e => hp (by rw [← e]; rfl))).trans hgg, rest⟩
theorem own_form {w : World} {B m : Nat} {v : Value} {ds : List Int} (h : w.ownsRow B 35 2 v m (dotL ds)) : ∃ q cc, v = .slice q m cc ∧ DotsL w q m ds := by
  have hl : ds.length = 2 * m := by have := h.1; rw [dotL_len] at this; omega
  rcases h.2 with ⟨rfl, rfl⟩ | ⟨g, cap, cur, rfl, h1, h2, h3, h4, h5, h6⟩
  · exact ⟨none, 0, rfl, hl, fun h => by omega⟩
  · refine ⟨some ⟨g, 0, none⟩, cap, rfl, hl, fun _ => ⟨g, 0, rfl, (Array.getElem?_eq_some_iff.1 h2).1, fun j hj => ?_⟩⟩
    rw [Nat.zero_add, h.cellAt j (by omega)]
    have hj2 : j < ds.length := by omega
    simp [dotL, hj2]
set_option maxRecDepth 20000 in
set_option maxHeartbeats 4000000 in
theorem put_c (B J : Nat) (V : Int → Int) (p : Option Addr) (n c : Nat) (ls : List Int) (hn : n ≤ 1000) (w : World) (hJ : JoinS B J V w) (hL : DotsL w p n ls) (hpB : 0 < n → ∀ ad, p = some ad → ad.block < B) (hok : ∀ i, i < n → okD (lD ls (i * 2)) (lD ls (i * 2 + 1)) = true) :
    Calls Tryz.prog 19 #[.pointer (some ⟨J, 0, none⟩), .slice p n c] w fun e w' => e = .returned (.tuple #[]) ∧ JoinS B J (upsV ls n V) w' ∧ Below B w w' ∧ DotsL w' p n ls := by
  replace hL := Lib.hid hL
  replace hok := Lib.hid hok
  replace hpB := Lib.hid hpB
  go_enter Tryz.func19, Tryz.ntmps19
  go_wp2
  go_loopw [10] (fun i wr => ∃ k : Nat, k ≤ n ∧ i = .int .i64 k ∧ JoinS B J (upsV ls k V) wr ∧ Below B w wr ∧ DotsL wr p n ls) (fun i _ => (n - intOf i).toNat)
  case atStart => exact ⟨0, by omega, rfl, hJ, Below.refl _ _, hL.out⟩
  case round =>
    obtain ⟨k, hk, hi, hS, hb, hL⟩ := hrel
    subst hi
    by_cases he : k = n
    · subst he
      have hP := Lib.hid (And.intro hS (And.intro hb hL))
      clear hS hb hL hk
      go_wp2
      go_returns
      exact ⟨rfl, hP.out⟩
    · have hk0 : (0 : Int) ≤ (k : Int) := by omega
      have hk1 : (k : Int) < (n : Int) := by omega
      have hk2 : k < n := by omega
      replace hpB := Lib.hid (hpB.out (by omega))
      have hxy := hok.out k hk2
      have hnx : upsV ls (k + 1) V = upV (upsV ls k V) (lD ls (k * 2)) (lD ls (k * 2 + 1)) := rfl
      obtain ⟨v, m, ds, hBJ, hown, hR, hval, ⟨hJB, hneJ⟩, hBw⟩ := hS
      obtain ⟨q, cc, rfl, hDq⟩ := own_form hown
      obtain ⟨g, o, rfl, hg, hc⟩ := hL.2 (by omega)
      have c0 : wr.cell? ⟨g, o + k * 2, none⟩ = some (.int .i64 (lD ls (k * 2))) := hc (k * 2) (by omega)
      have c1 : wr.cell? ⟨g, o + k * 2 + 1, none⟩ = some (.int .i64 (lD ls (k * 2 + 1))) := by rw [Nat.add_assoc]; exact hc (k * 2 + 1) (by omega)
      have hGo : (Value.slice q m cc).ownBlock ≠ some wr.heap.size := fun h => by have := (hown.lt _ h).2; omega
      have hOB : ∀ b, (Value.slice q m cc).ownBlock = some b → B ≤ b := fun b h => (hown.lt b h).1
      replace hGo := Lib.hid hGo
      replace hneJ := Lib.hid hneJ
      replace hOB := Lib.hid hOB
      generalize upsV ls k V = V0 at *
      generalize lD ls (k * 2) = x at *
      generalize lD ls (k * 2 + 1) = y at *
      have hm8 : m ≤ 8 := right_le8 hR
      have hat := fun w' hb => at_c q m cc (lD ds) x (by omega) w' (hDq.2.below (w := wr) (w' := w') hb) (rightD_lt hR)
      replace hat := Lib.hid hat
      replace hxy := Lib.hid hxy
      replace hnx := Lib.hid hnx
      replace hval := Lib.hid hval
      replace hR := Lib.hid hR
      replace hown := Lib.hid hown
      replace hL := Lib.hid hL
      clear hk he hc
      go_wp2
      refine at_world (fun W1 hW => ?_)
      have hG : Blk W1 wr.heap.size 35 #[.int .i64 x, .int .i64 y] := by rw [hW]; exact Blk.new _ _ _
      have hbw : Below wr.heap.size wr W1 := by rw [hW]; exact (Below.refl _ _).alloc (Nat.le_refl _) _
      clear hW c0 c1
      replace hBJ := (hBJ.below hbw).drew
      replace hG := hG.drew
      have hbd : Below wr.heap.size wr W1.drew := hbw.drew
      clear hbw
      generalize hGe : wr.heap.size = GD at *
      go_region_held3 (fun w' => w'.cell? ⟨J, 0, none⟩ = some (.slice q m cc) ∧ w'.cell? ⟨GD, 0, none⟩ = some (.int .i64 x) ∧ w'.cell? ⟨GD, 1, none⟩ = some (.int .i64 y)) (first | exact ⟨hJ2.cell 0, hG2.cell 0, hG2.cell 1⟩ | exact ⟨hBJ.cell 0, hG.cell 0, hG.cell 1⟩) (first | (go_at_call 34; refine (hat.out _ hbd).mono ?_; rintro e w2 ⟨kk, h1, h2, h3, rfl, hb2⟩; have hJ2 := hBJ.below hb2; have hG2 := hG.below hb2; replace h2 := Lib.hid h2; replace h3 := Lib.hid h3; clear hat))
      clear hG hBJ
      subst hGe
      have hb3 : Below wr.heap.size wr w2 := hbd.trans (hb2.mono hbd.size)
      replace hown := Lib.hid (below_kept hown.out hb3)
      replace hL := Lib.hid (hL.out.below hb3)
      have hbJ : Below B w w2 := hb.trans (hb3.mono hBw)
      have hBw2 : B ≤ w2.heap.size := Nat.le_trans hBw hb3.size
      have hGB : B ≤ wr.heap.size := hBw
      clear hb hbd hb2 hb3 hBw
      generalize wr.heap.size = GD at *
      cases hf : foundB m (lD ds) x kk
      · have hst : ∀ i, kk ≤ i → i < m → x < lD ds (i * 2) := fun i hi1 hi2 => by
          have hle := h3.out i hi1 hi2
          by_cases e : lD ds (kk * 2) = x ∧ kk < m
          · simp [foundB, e.1, e.2] at hf
          · rcases Nat.lt_or_ge kk i with h | h
            · have := rightD_lt hR.out kk i h hi2
              have := h3.out kk (Nat.le_refl _) (by omega)
              omega
            · obtain rfl : kk = i := by omega
              have : lD ds (kk * 2) ≠ x := fun h => e ⟨h, hi2⟩
              omega
        replace hst := Lib.hid hst
        clear hf
        replace hJ2 := hJ2.drew
        replace hG2 := hG2.drew
        have hown2 := Lib.hid ((hown.out).drew)
        go_wp2
        have cJ := hJ2.cell 0
        have cx := hG2.cell 0
        have cy := hG2.cell 1
        simp only [List.getElem?_toArray, List.getElem?_cons_zero] at cJ cx
        simp only [List.getElem?_toArray, List.getElem?_cons_zero, List.getElem?_cons_succ] at cy
        have hJa : Blk (w2.alloc (.cells #[.int .i64 x, .int .i64 y] 35)).drew J 41 #[.slice q m cc] := (Blk.alloc hJ2 (w := w2) _).drew
        have hba : Below B w (w2.alloc (.cells #[.int .i64 x, .int .i64 y] 35)).drew := (hbJ.alloc (by omega) _).drew
        have hLa : DotsL (w2.alloc (.cells #[.int .i64 x, .int .i64 y] 35)).drew (some ⟨g, o, none⟩) n ls := hL.out.below ((Below.refl _ _).alloc (Nat.le_refl _) _).drew
        have hoa : (w2.alloc (.cells #[.int .i64 x, .int .i64 y] 35)).drew.ownsRow B 35 2 (.slice q m cc) m (dotL ds) := (hown.out.alloc _).drew
        have hBa : B ≤ (w2.alloc (.cells #[.int .i64 x, .int .i64 y] 35)).drew.heap.size := Nat.le_trans hBw2 (by simp)
        have cJa : (w2.alloc (.cells #[.int .i64 x, .int .i64 y] 35)).cell? ⟨J, 0, none⟩ = some (.slice q m cc) := hJa.cell 0
        have hins := insert_c B m kk w2.heap.size _ ds x y _ hoa hBa (Blk.new w2 _ _).drew (fun h => by have := (hown2.out.lt _ h).2; have h2 : w2.drew.heap.size = w2.heap.size := rfl; omega) h1 (by omega)
        generalize hWa : (w2.alloc (.cells #[.int .i64 x, .int .i64 y] 35)).drew = wa at *
        have hfin : ∀ (w4 : World) (q4 : Option Addr) (c4 : Nat), w4.ownsRow B 35 2 (.slice q4 (m + 1) c4) (m + 1) (dotL (insL ds kk x y)) → wa.grownBy w4 (Value.slice q m cc).ownBlock → ((Value.slice q4 (m + 1) c4).ownBlock = (Value.slice q m cc).ownBlock ∨ (Value.slice q4 (m + 1) c4).ownBlock = some wa.heap.size) → Blk w4 J 41 #[.slice q m cc] → JoinS B J (upV V0 x y) (w4.setCell ⟨J, 0, none⟩ (.slice q4 (m + 1) c4)) ∧ Below B w (w4.setCell ⟨J, 0, none⟩ (.slice q4 (m + 1) c4)) ∧ DotsL (w4.setCell ⟨J, 0, none⟩ (.slice q4 (m + 1) c4)) (some ⟨g, o, none⟩) n ls := fun w4 q4 c4 ho hg ha hj => by
          have hl2 : ds.length = 2 * m := by have := hown.out.1; rw [dotL_len] at this; omega
          have hBJ4 : B ≤ w4.heap.size := Nat.le_trans hBa hg.size
          have hb4 : Below B w w4 := hba.grown hg hBa (fun k h => hOB.out k h)
          have hne4 : (Value.slice q4 (m + 1) c4).ownBlock ≠ some J := fun h => by
            rcases ha with ha | ha
            · exact hneJ.out (ha.symm.trans h)
            · rw [h] at ha; injection ha with ha; have := hJa.lt; omega
          refine ⟨⟨_, m + 1, insL ds kk x y, hj.set_ 0 _, ?_, right_ins hl2 h1 hR.out hxy.out h2.out hst.out, fun q' => ?_, ⟨hJB, hne4⟩, by simpa [World.setCell] using hBJ4⟩, hb4.setCell (p := ⟨J, 0, none⟩) hJB _, ?_⟩
          · exact own_setCell ho hne4 _
          · rw [val_ins hl2 h1 hR.out hxy.out h2.out hst.out]
            unfold upV
            by_cases h : q' = x
            · rw [if_pos h, if_pos h, h, ← hval.out x]
              have : valD m (lD ds) x = 0 := valD_none (fun i hi => by
                rcases Nat.lt_or_ge i kk with h5 | h5
                · have := h2.out i h5; omega
                · have := hst.out i h5 hi; omega)
              have := of_decide_eq_true hxy.out
              omega
            · rw [if_neg h, if_neg h, hval.out q']
          · refine DotsL.grown' (hLa.grown' hg (fun _ ad e h => by injection e with e; subst e; have := hOB.out _ h.symm; have := hpB.out _ rfl; omega)) (w' := w4.setCell ⟨J, 0, none⟩ (.slice q4 (m + 1) c4)) (row := some J) (grown_setCells J [.slice q4 (m + 1) c4] 0 w4) (fun _ ad e h => by injection h with h; have := hpB.out ad e; omega)
        replace hfin := Lib.hid hfin
        replace hWa := Lib.hid hWa
        replace hJa := Lib.hid hJa
        replace hba := Lib.hid hba
        replace hLa := Lib.hid hLa
        replace hoa := Lib.hid hoa
        replace hBa := Lib.hid hBa
        replace hins := Lib.hid hins
        go_region_law (first | (go_simp; go_at_call 35; rw [hWa.out]; refine hins.out.mono ?_; clear cJ cx cy cJa; rintro e w4 ⟨v', rfl, ho4, hg4, ha4⟩; obtain ⟨q4, c4, rfl, _⟩ := own_form (ds := insL ds kk x y) ho4; have hJ4 := hJa.out.grown hg4 (fun h => hneJ.out h.symm); have cJ4 : w4.cell? ⟨J, 0, none⟩ = some (.slice q m cc) := hJ4.cell 0; have fJ4 : w4.frozen? ⟨J, 0, none⟩ = false := hJ4.frozen 0; have hP := Lib.hid (hfin.out w4 q4 c4 ho4 hg4 ha4 hJ4); clear ho4 hg4 ha4 hfin hJ4))
        all_goals
          go_wp2
          exact ⟨⟨k + 1, by omega, rfl, by rw [hnx.out]; exact hP.out.1, hP.out.2.1, hP.out.2.2⟩, by simp [intOf]; omega⟩
      · obtain ⟨hkm, hkx⟩ : kk < m ∧ lD ds (kk * 2) = x := of_decide_eq_true hf
        rcases hown.out.2 with ⟨_, h0⟩ | ⟨qg, qc, cur, hqe, a1, a2, a3, a4, a5, a6⟩
        · omega
        · injection hqe with e1 _ e3
          subst e1 e3
          obtain ⟨C, b1, b2, b3, b4, b5, b6⟩ := own_blk hown.out
          clear a2 a5 a6 a3 a4 hf
          have hl : ds.length = m * 2 := by rwa [dotL_len] at b1
          have cy : w2.cell? ⟨qg, kk * 2 + 1, none⟩ = some (.int .i64 (lD ds (kk * 2 + 1))) := by
            rw [b6.cell]
            have h1 : kk * 2 + 1 < ds.length := by omega
            simp only [List.getElem?_toArray]
            rw [List.getElem?_append_left (by rw [dotL_len]; exact h1)]
            simp [dotL, lD, h1]
          have fy : w2.frozen? ⟨qg, kk * 2 + 1, none⟩ = false := b6.frozen _
          have cJ := hJ2.cell 0
          have cx := hG2.cell 0
          have cyy := hG2.cell 1
          have hkk0 : (0 : Int) ≤ (kk : Int) := by omega
          have hkk1 : (kk : Int) < (m : Int) := by omega
          simp only [List.getElem?_toArray, List.getElem?_cons_zero] at cJ cx
          simp only [List.getElem?_toArray, List.getElem?_cons_zero, List.getElem?_cons_succ] at cyy
          have hRR := hR.out
          have hz1 := hRR.pos hkm
          have hxx := of_decide_eq_true hxy.out
          obtain ⟨z, hz⟩ : ∃ z, z = lD ds (kk * 2 + 1) := ⟨_, rfl⟩
          rw [← hz] at cy hz1
          have hok2 : okD (lD ds (kk * 2)) (max z y) = true := decide_eq_true (by rw [hkx]; omega)
          have hl2 : ds.length = 2 * m := by omega
          have hvv : ∀ q', valD m (lD (setL ds kk (max z y))) q' = upV V0 x y q' := fun q' => by
            rw [val_set hl2 hkm hRR hok2, hkx]
            unfold upV
            by_cases h : q' = x
            · rw [if_pos h, if_pos h, h, ← hval.out x, ← hkx, valD_at hRR kk hkm, hz]
            · rw [if_neg h, if_neg h, hval.out q']
          have hbl : Blk (w2.setCell ⟨qg, kk * 2 + 1, none⟩ (.int .i64 (max z y))) qg 35 (dotL (setL ds kk (max z y)) ++ C).toArray := by
            have h := b6.set_ (kk * 2 + 1) (.int .i64 (max z y))
            have e : (dotL ds ++ C).toArray.setIfInBounds (kk * 2 + 1) (.int .i64 (max z y)) = (dotL (setL ds kk (max z y)) ++ C).toArray := by
              have h1 : kk * 2 + 1 < (dotL ds).length := by rw [dotL_len]; omega
              simp [dotL, setL, List.set_append, List.map_set]
              omega
            rwa [e] at h
          have hJo : J ≠ qg := fun h => hneJ.out (by rw [h]; rfl)
          have hfin : JoinS B J (upV V0 x y) (w2.setCell ⟨qg, kk * 2 + 1, none⟩ (.int .i64 (max z y))).drew ∧ Below B w (w2.setCell ⟨qg, kk * 2 + 1, none⟩ (.int .i64 (max z y))).drew ∧ DotsL (w2.setCell ⟨qg, kk * 2 + 1, none⟩ (.int .i64 (max z y))).drew (some ⟨g, o, none⟩) n ls := by
            refine ⟨⟨_, m, setL ds kk (max z y), (hJ2.far (p := ⟨qg, kk * 2 + 1, none⟩) hJo _).drew, ?_, right_set hl2 hkm hRR hok2, hvv, ⟨hJB, hneJ.out⟩, ?_⟩, (hbJ.setCell (p := ⟨qg, kk * 2 + 1, none⟩) (by show B ≤ qg; omega) _).drew, ?_⟩
            · exact (blk_own (C := C) hbl (by rw [dotL_len]; unfold setL; rw [List.length_set, hl]) b2 b3 b4 (by rw [dotL_len]; unfold setL; rw [List.length_set, ← dotL_len]; exact b5)).drew
            · simpa [World.setCell] using hBw2
            · refine DotsL.grown' hL.out (w' := (w2.setCell ⟨qg, kk * 2 + 1, none⟩ (.int .i64 (max z y)))) (row := some qg) (grown_setCells qg [.int .i64 (max z y)] (kk * 2 + 1) w2) (fun _ ad e h => by injection h with h; have := hpB.out ad e; omega)
          replace hfin := Lib.hid hfin
          clear hbl hvv b1 b5 b6 hown hRR hz1 hxx hok2 hz
          go_wp2
          go_region
          go_wp2
          exact ⟨⟨k + 1, by omega, rfl, by rw [hnx.out]; exact hfin.out.1, hfin.out.2.1, hfin.out.2.2⟩, by simp [intOf]; omega⟩
end Go.Proofs.YtofgkfdfondajaaGreat
