/- The walk of VectorJoins. -/
import Derived.Test.YtofgkfdfondajaaGreatEg
import Derived.Test.YtofgkfdfondajaaGreatKe2
namespace Go.Proofs.YtofgkfdfondajaaGreat
open Go.RowKit
theorem rowE_lent {base : Nat} {w : World} {g n cap : Nat} {ds : List Int} (h : w.ownsRow base 35 2 (.slice (some ⟨g, 0, none⟩) (n + 12) cap) (n + 12) (dotL ds)) : ∃ f, RowE w g (n * 2) (cap * 2) f := by
  have hl : ds.length = (n + 12) * 2 := by have := h.1; rwa [dotL_len] at this
  rw [dotL_cD hl] at h
  exact ⟨_, (rowE_of h).cut (by omega)⟩
/-- what is to lie apart at the end -/
def FinS (B : Nat) (N : Nat → Nat) (L : Nat → List Int) (vin : Value) (vs : List Value) (va vb vx vy : Value) (sa sb sx sy : Nat) (w : World) : Prop := PV B w vin vs ∧ Rws B vs w ∧ InS w N L vs ∧ Rowy sa w va ∧ Rowy sb w vb ∧ Rowy sx w vx ∧ Rowy sy w vy
theorem FinS.below {B : Nat} {N : Nat → Nat} {L : Nat → List Int} {vin : Value} {vs : List Value} {va vb vx vy : Value} {sa sb sx sy : Nat} {w w' : World} (h : FinS B N L vin vs va vb vx vy sa sb sx sy w) (hb : Below w.heap.size w w') : FinS B N L vin vs va vb vx vy sa sb sx sy w' :=
  ⟨h.1.below hb, h.2.1.below hb, h.2.2.1.below hb, h.2.2.2.1.below hb, h.2.2.2.2.1.below hb, h.2.2.2.2.2.1.below hb, h.2.2.2.2.2.2.below hb⟩
theorem FinS.rws {B : Nat} {N : Nat → Nat} {L : Nat → List Int} {vin : Value} {vs : List Value} {va vb vx vy : Value} {sa sb sx sy : Nat} {w : World} (h : FinS B N L vin vs va vb vx vy sa sb sx sy w) (hB : B ≤ sx) (h1 : ∀ k, k < vs.length → ∀ b, (vs.getD k undef).ownBlock = some b → b < sx) (h2 : ∀ b, vx.ownBlock = some b → b < sy) (h3 : ∀ b, vy.ownBlock = some b → b < sa) (h4 : ∀ b, va.ownBlock = some b → b < sb) (h12 : sx ≤ sy) (h23 : sy ≤ sa) (h34 : sa ≤ sb) : Rws B (vs ++ [va, vb, vx, vy]) w := by
  obtain ⟨_, hR, _, ra, rb, rx, ry⟩ := h
  have e1 := hR.snoc2 ra (by omega) (fun k hk b b2 a1 a2 => by have := h1 k hk b a1; have := (ra.blk a2).1; omega)
  have e2 := e1.snoc2 rb (by omega) (ne_snoc (fun k hk b b2 a1 a2 => by have := h1 k hk b a1; have := (rb.blk a2).1; omega) (fun b b2 a1 a2 => by have := h4 b a1; have := (rb.blk a2).1; omega))
  have e3 := e2.snoc2 rx hB (ne_snoc (ne_snoc (fun k hk b b2 a1 a2 => by have := h1 k hk b a1; have := (rx.blk a2).1; omega) (fun b b2 a1 a2 => by have := h2 b2 a2; have := (ra.blk a1).1; omega)) (fun b b2 a1 a2 => by have := h2 b2 a2; have := (rb.blk a1).1; omega))
  have e4 := e3.snoc2 ry (by omega) (ne_snoc (ne_snoc (ne_snoc (fun k hk b b2 a1 a2 => by have := h1 k hk b a1; have := (ry.blk a2).1; omega) (fun b b2 a1 a2 => by have := h3 b2 a2; have := (ra.blk a1).1; omega)) (fun b b2 a1 a2 => by have := h3 b2 a2; have := (rb.blk a1).1; omega)) (fun b b2 a1 a2 => by have := h2 b a1; have := (ry.blk a2).1; omega))
  have e5 : (((vs ++ [va]) ++ [vb]) ++ [vx]) ++ [vy] = vs ++ [va, vb, vx, vy] := by simp
  rw [e5] at e4
  exact e4
set_option maxRecDepth 20000 in
set_option maxHeartbeats 8000000 in
theorem vectorJoins_c (p : Option Addr) (n c : Nat) (P : Nat → Option Addr) (N C : Nat → Nat) (L : Nat → List Int) (p1 : Option Addr) (n1 c1 : Nat) (l1 : List Int) (p2 : Option Addr) (n2 c2 : Nat) (l2 : List Int) (w : World) (hR : RowAt w p n (fun i => .slice (P i) (N i) (C i))) (hL : ∀ i, i < n → DotsL w (P i) (N i) (L i)) (h1 : DotsL w p1 n1 l1) (h2 : DotsL w p2 n2 l2) :
    Calls Tryz.prog 3 #[.slice p n c, .slice p1 n1 c1, .slice p2 n2 c2] w (AwP w) := by
  have hb := Below.refl w.heap.size w
  have hcell : ∀ wr, Below w.heap.size w wr → ∀ k, k < n → ∃ g o, p = some ⟨g, o, none⟩ ∧ g < w.heap.size ∧ wr.cell? ⟨g, o + k, none⟩ = some (.slice (P k) (N k) (C k)) := fun wr hb k hk => by
    obtain ⟨g, o, e, hg, hc⟩ := hR (by omega)
    exact ⟨g, o, e, hg, (hb.cell (p := ⟨g, o + k, none⟩) hg).trans (hc k hk)⟩
  replace hcell := Lib.hid hcell
  replace hR := Lib.hid hR
  replace hL := Lib.hid hL
  replace h1 := Lib.hid h1
  replace h2 := Lib.hid h2
  go_enter Tryz.func3, Tryz.ntmps3
  go_wp2_with fail
  refine (awake_c w).mono ?_
  rintro e w1 ⟨rfl, hb1⟩
  replace hb := hb.trans (hb1.mono hb.size)
  clear hb1
  go_wp2_with fail
  refine (small_c p n c P N C w1 (RowAt.below hR.out hb)).mono ?_
  rintro e w2 ⟨⟨sm, rfl, hsm⟩, hb2⟩
  replace hsm := Lib.hid hsm
  replace hb := hb.trans (hb2.mono hb.size)
  clear hb2
  cases sm
  · go_wp2
    go_returns
    exact ⟨rfl, hb⟩
  obtain ⟨hn20, hN⟩ := hsm.out rfl
  clear hsm
  go_wp2_with fail
  refine calls_at (fun w3 hW => ?_)
  have hB : Blk w3 w2.heap.size 23 #[.slice p1 n1 c1, .slice p2 n2 c2] := by rw [hW]; exact Blk.new _ _ _
  have hb3 : Below w2.heap.size w2 w3 := by rw [hW]; exact (Below.refl _ _).alloc (Nat.le_refl _) _
  clear hW
  replace hb := hb.trans (hb3.mono hb.size)
  clear hb3
  refine (small_c _ 2 2 (sel2 p1 p2) (sel2 n1 n2) (sel2 c1 c2) w3 (rows_at hB 2 _ (fun i hi => by have h : i = 0 ∨ i = 1 := (by omega); rcases h with rfl | rfl <;> rfl))).mono ?_
  rintro e w4 ⟨⟨sm, rfl, hsm⟩, hb4⟩
  replace hsm := Lib.hid hsm
  clear hB
  replace hb := hb.trans (hb4.mono hb.size)
  clear hb4
  cases sm
  · go_wp2
    go_returns
    exact ⟨rfl, hb⟩
  obtain ⟨_, hsm⟩ := hsm.out rfl
  have hn1 : n1 ≤ 150 := hsm 0 (by decide)
  have hn2 : n2 ≤ 150 := hsm 1 (by decide)
  clear hsm
  replace hN := Lib.hid hN
  go_wp2
  go_loopw [7, 8] (fun v i wr => ∃ (k : Nat) (vs : List Value), k ≤ n ∧ i = .int .i64 k ∧ vs.length = k ∧ PV w.heap.size wr v vs ∧ Rws w.heap.size vs wr ∧ InS wr N L vs ∧ Below w.heap.size w wr) (fun _ i _ => (n - intOf i).toNat)
  case atStart => exact ⟨0, [], Nat.zero_le _, rfl, rfl, .inl ⟨rfl, rfl⟩, Rws.nil _ _, fun k hk => absurd hk (by simp), hb⟩
  case round =>
    clear hb
    obtain ⟨k, vs, hk, hi, hl, hV, hRw, hIn, hb⟩ := hrel
    subst hi
    by_cases he : k = n
    · subst he
      obtain ⟨P', C', hPC⟩ := choosePC (N := N) (L := L) (w := wr) (fun i hi => by
        obtain ⟨g, cap, f, a1, a2, a3, _⟩ := hIn i hi
        exact ⟨_, cap, a1, lentD (hL.out i (by omega)).1 a3⟩)
      obtain ⟨pp, cc, hv, hRA⟩ := pv_rows hV (F := fun i => .slice (P' i) (N i) (C' i)) (fun i hi => (hPC i hi).1)
      obtain ⟨Q, hQ⟩ : ∃ Q : World → Prop, Q = fun w' => RowAt w' pp k (fun i => .slice (P' i) (N i) (C' i)) ∧ ∀ i, i < k → DotsL w' (P' i) (N i) (L i) := ⟨_, rfl⟩
      have hQ0 : Below wr.heap.size wr wr ∧ RowAt wr pp k (fun i => .slice (P' i) (N i) (C' i)) ∧ ∀ i, i < k → DotsL wr (P' i) (N i) (L i) := ⟨Below.refl _ _, by rw [hl] at hRA; exact hRA, fun i hi => (hPC i (by omega)).2⟩
      rw [hl] at hv
      subst hv
      have hgd : ∀ i, i < k → vs.getD i undef = .slice (P' i) (N i) (C' i) := fun i hi => (hPC i (by omega)).1
      have hvlt : ∀ i, i < vs.length → ∀ b, (vs.getD i undef).ownBlock = some b → b < wr.heap.size := fun i hi b hb => (hRw.blk hi hb).2
      have hjn := fun w' (hb : Below wr.heap.size wr w') => join_c pp k cc P' N C' L (by omega) (fun i hi => by have := hN.out i hi; omega) w' (RowAt.below hQ0.2.1 hb) (fun i hi => (hQ0.2.2 i hi).below hb)
      have hrj := fun w' (hb : Below w.heap.size w w') => rjoin_c p k c P N C L (by omega) (fun i hi => by have := hN.out i hi; omega) w' (RowAt.below hR.out hb) (fun i hi => (hL.out i hi).below hb)
      replace hjn := Lib.hid hjn
      replace hrj := Lib.hid hrj
      replace hvlt := Lib.hid hvlt
      replace hgd := Lib.hid hgd
      have hsw := hb.size
      replace hV := Lib.hid hV
      replace hRw := Lib.hid hRw
      replace hIn := Lib.hid hIn
      clear hQ hQ0 hPC hRA hk
      have hbr := Below.refl wr.heap.size wr
      have hsc := lentDots_c p1 n1 c1 l1 (by omega) wr (h1.out.below hb)
      replace hsc := Lib.hid hsc
      go_wp2_with fail
      refine hsc.out.mono ?_
      rintro e w5 ⟨gx, kx, rfl, hkx, ho, hb5⟩
      clear hsc
      have hrx := Lib.hid (rowy_lent ho (by omega))
      have hdx := Lib.hid (own_dots ho)
      have hltx : ∀ b, (Value.slice (some ⟨gx, 0, none⟩) n1 kx).ownBlock = some b → b < w5.heap.size := fun b hb => (hrx.out.blk hb).2
      replace hltx := Lib.hid hltx
      have hsx : wr.heap.size ≤ w5.heap.size := hb5.size
      clear ho
      replace hbr := hbr.trans (hb5.mono hbr.size)
      replace hb := hb.trans (hb5.mono hb.size)
      replace hV := Lib.hid (hV.out.below hb5)
      replace hRw := Lib.hid (hRw.out.below hb5)
      replace hIn := Lib.hid (hIn.out.below hb5)
      clear hb5
      have hsc := lentDots_c p2 n2 c2 l2 (by omega) w5 (h2.out.below hb)
      replace hsc := Lib.hid hsc
      go_wp2_with fail
      refine hsc.out.mono ?_
      rintro e w6 ⟨gy, ky, rfl, hky, ho, hb6⟩
      clear hsc
      have hry := Lib.hid (rowy_lent ho (by omega))
      have hdy := Lib.hid (own_dots ho)
      have hlty : ∀ b, (Value.slice (some ⟨gy, 0, none⟩) n2 ky).ownBlock = some b → b < w6.heap.size := fun b hb => (hry.out.blk hb).2
      replace hlty := Lib.hid hlty
      have hsy : w5.heap.size ≤ w6.heap.size := hb6.size
      clear ho
      replace hbr := hbr.trans (hb6.mono hbr.size)
      replace hb := hb.trans (hb6.mono hb.size)
      replace hV := Lib.hid (hV.out.below hb6)
      replace hRw := Lib.hid (hRw.out.below hb6)
      replace hIn := Lib.hid (hIn.out.below hb6)
      replace hrx := Lib.hid (hrx.out.below hb6)
      replace hdx := Lib.hid (hdx.out.below hb6)
      clear hb6
      go_wp2_with fail
      refine (hjn.out w6 hbr).mono ?_
      rintro e w7 ⟨qa, ma, ka, esa, rfl, ho, hRa, hva, hb7⟩
      have hda := Lib.hid (own_dots ho)
      have hma : ma ≤ 8 := right_le8 hRa
      have hra := Lib.hid (rowy_own ho (by omega))
      have hlta : ∀ b, (Value.slice qa ma ka).ownBlock = some b → b < w7.heap.size := fun b hb => (hra.out.blk hb).2
      replace hlta := Lib.hid hlta
      have hsa : w6.heap.size ≤ w7.heap.size := hb7.size
      clear ho
      replace hbr := hbr.trans (hb7.mono hbr.size)
      replace hb := hb.trans (hb7.mono hb.size)
      replace hV := Lib.hid (hV.out.below hb7)
      replace hRw := Lib.hid (hRw.out.below hb7)
      replace hIn := Lib.hid (hIn.out.below hb7)
      replace hrx := Lib.hid (hrx.out.below hb7)
      replace hdx := Lib.hid (hdx.out.below hb7)
      replace hry := Lib.hid (hry.out.below hb7)
      replace hdy := Lib.hid (hdy.out.below hb7)
      clear hb7
      replace hRa := Lib.hid hRa
      replace hva := Lib.hid hva
      clear hjn
      have hadd := add_c _ n1 kx l1 _ n2 ky l2 (by omega) (by omega) w7 (lentD h1.out.1 hdx.out) (lentD h2.out.1 hdy.out)
      replace hadd := Lib.hid hadd
      go_wp2_with fail
      refine (hadd.out).mono ?_
      rintro e w8 ⟨qb, mb, kb, esb, rfl, ho, hRb, hvb, hb8⟩
      have hdb := Lib.hid (own_dots ho)
      have hmb : mb ≤ 8 := right_le8 hRb
      have hrb := Lib.hid (rowy_own ho (by omega))
      have hltb : ∀ b, (Value.slice qb mb kb).ownBlock = some b → b < w8.heap.size := fun b hb => (hrb.out.blk hb).2
      replace hltb := Lib.hid hltb
      have hsb : w7.heap.size ≤ w8.heap.size := hb8.size
      clear ho
      replace hbr := hbr.trans (hb8.mono hbr.size)
      replace hb := hb.trans (hb8.mono hb.size)
      replace hV := Lib.hid (hV.out.below hb8)
      replace hRw := Lib.hid (hRw.out.below hb8)
      replace hIn := Lib.hid (hIn.out.below hb8)
      replace hrx := Lib.hid (hrx.out.below hb8)
      replace hdx := Lib.hid (hdx.out.below hb8)
      replace hry := Lib.hid (hry.out.below hb8)
      replace hdy := Lib.hid (hdy.out.below hb8)
      replace hda := Lib.hid (hda.out.below hb8)
      replace hra := Lib.hid (hra.out.below hb8)
      clear hb8
      replace hRb := Lib.hid hRb
      replace hvb := Lib.hid hvb
      clear hadd
      go_wp2_with fail
      refine (hrj.out w8 hb).mono ?_
      rintro e w9 ⟨qr, mr, kr, esr, rfl, ho, hRr, hvr, hb9⟩
      have hdr := Lib.hid (own_dots ho)
      have hmr : mr ≤ 8 := right_le8 hRr
      clear ho
      replace hbr := hbr.trans (hb9.mono hbr.size)
      replace hb := hb.trans (hb9.mono hb.size)
      replace hV := Lib.hid (hV.out.below hb9)
      replace hRw := Lib.hid (hRw.out.below hb9)
      replace hIn := Lib.hid (hIn.out.below hb9)
      replace hrx := Lib.hid (hrx.out.below hb9)
      replace hdx := Lib.hid (hdx.out.below hb9)
      replace hry := Lib.hid (hry.out.below hb9)
      replace hdy := Lib.hid (hdy.out.below hb9)
      replace hda := Lib.hid (hda.out.below hb9)
      replace hra := Lib.hid (hra.out.below hb9)
      replace hdb := Lib.hid (hdb.out.below hb9)
      replace hrb := Lib.hid (hrb.out.below hb9)
      clear hb9
      replace hRr := Lib.hid hRr
      replace hvr := Lib.hid hvr
      clear hrj
      have hs : eqL esa esr = true := decide_eq_true (eqL_val hda.out.1 hdr.out.1 hRa.out hRr.out (fun q => by rw [hva.out, hvr.out])).1
      have hsc := sameDots_c qa qr ma ka mr kr esa esr (by omega) (by omega) w9 hda.out hdr.out
      rw [hs] at hsc
      clear hs
      replace hsc := Lib.hid hsc
      go_wp2_with fail
      refine hsc.out.mono ?_
      rintro e w10 ⟨rfl, hb10⟩
      clear hsc
      replace hbr := hbr.trans (hb10.mono hbr.size)
      replace hb := hb.trans (hb10.mono hb.size)
      replace hV := Lib.hid (hV.out.below hb10)
      replace hRw := Lib.hid (hRw.out.below hb10)
      replace hIn := Lib.hid (hIn.out.below hb10)
      replace hrx := Lib.hid (hrx.out.below hb10)
      replace hdx := Lib.hid (hdx.out.below hb10)
      replace hry := Lib.hid (hry.out.below hb10)
      replace hdy := Lib.hid (hdy.out.below hb10)
      replace hda := Lib.hid (hda.out.below hb10)
      replace hra := Lib.hid (hra.out.below hb10)
      replace hdb := Lib.hid (hdb.out.below hb10)
      replace hrb := Lib.hid (hrb.out.below hb10)
      replace hdr := Lib.hid (hdr.out.below hb10)
      clear hb10
      have hadd := radd_c p1 n1 c1 l1 p2 n2 c2 l2 (by omega) (by omega) w10 (h1.out.below hb) (h2.out.below hb)
      replace hadd := Lib.hid hadd
      go_wp2_with fail
      refine (hadd.out).mono ?_
      rintro e w11 ⟨qs, ms, ks, ess, rfl, ho, hRs, hvs, hb11⟩
      have hds := Lib.hid (own_dots ho)
      have hms : ms ≤ 8 := right_le8 hRs
      clear ho
      replace hbr := hbr.trans (hb11.mono hbr.size)
      replace hb := hb.trans (hb11.mono hb.size)
      replace hV := Lib.hid (hV.out.below hb11)
      replace hRw := Lib.hid (hRw.out.below hb11)
      replace hIn := Lib.hid (hIn.out.below hb11)
      replace hrx := Lib.hid (hrx.out.below hb11)
      replace hdx := Lib.hid (hdx.out.below hb11)
      replace hry := Lib.hid (hry.out.below hb11)
      replace hdy := Lib.hid (hdy.out.below hb11)
      replace hda := Lib.hid (hda.out.below hb11)
      replace hra := Lib.hid (hra.out.below hb11)
      replace hdb := Lib.hid (hdb.out.below hb11)
      replace hrb := Lib.hid (hrb.out.below hb11)
      replace hdr := Lib.hid (hdr.out.below hb11)
      clear hb11
      replace hRs := Lib.hid hRs
      replace hvs := Lib.hid hvs
      clear hadd
      have hs : eqL esb ess = true := decide_eq_true (eqL_val hdb.out.1 hds.out.1 hRb.out hRs.out (fun q => by rw [hvb.out, hvs.out])).1
      have hsc := sameDots_c qb qs mb kb ms ks esb ess (by omega) (by omega) w11 hdb.out hds.out
      rw [hs] at hsc
      clear hs
      replace hsc := Lib.hid hsc
      go_wp2_with fail
      refine hsc.out.mono ?_
      rintro e w12 ⟨rfl, hb12⟩
      clear hsc
      replace hbr := hbr.trans (hb12.mono hbr.size)
      replace hb := hb.trans (hb12.mono hb.size)
      replace hV := Lib.hid (hV.out.below hb12)
      replace hRw := Lib.hid (hRw.out.below hb12)
      replace hIn := Lib.hid (hIn.out.below hb12)
      replace hrx := Lib.hid (hrx.out.below hb12)
      replace hdx := Lib.hid (hdx.out.below hb12)
      replace hry := Lib.hid (hry.out.below hb12)
      replace hdy := Lib.hid (hdy.out.below hb12)
      replace hda := Lib.hid (hda.out.below hb12)
      replace hra := Lib.hid (hra.out.below hb12)
      replace hdb := Lib.hid (hdb.out.below hb12)
      replace hrb := Lib.hid (hrb.out.below hb12)
      replace hdr := Lib.hid (hdr.out.below hb12)
      replace hds := Lib.hid (hds.out.below hb12)
      clear hb12
      have hsc := keptDots_c gx kx p1 n1 c1 l1 (by omega) hkx w12 hdx.out (h1.out.below hb)
      replace hsc := Lib.hid hsc
      go_wp2_with fail
      refine hsc.out.mono ?_
      rintro e w13 ⟨rfl, hb13⟩
      clear hsc
      replace hbr := hbr.trans (hb13.mono hbr.size)
      replace hb := hb.trans (hb13.mono hb.size)
      replace hV := Lib.hid (hV.out.below hb13)
      replace hRw := Lib.hid (hRw.out.below hb13)
      replace hIn := Lib.hid (hIn.out.below hb13)
      replace hrx := Lib.hid (hrx.out.below hb13)
      replace hdx := Lib.hid (hdx.out.below hb13)
      replace hry := Lib.hid (hry.out.below hb13)
      replace hdy := Lib.hid (hdy.out.below hb13)
      replace hda := Lib.hid (hda.out.below hb13)
      replace hra := Lib.hid (hra.out.below hb13)
      replace hdb := Lib.hid (hdb.out.below hb13)
      replace hrb := Lib.hid (hrb.out.below hb13)
      replace hdr := Lib.hid (hdr.out.below hb13)
      replace hds := Lib.hid (hds.out.below hb13)
      clear hb13
      have hsc := keptDots_c gy ky p2 n2 c2 l2 (by omega) hky w13 hdy.out (h2.out.below hb)
      replace hsc := Lib.hid hsc
      go_wp2_with fail
      refine hsc.out.mono ?_
      rintro e w14 ⟨rfl, hb14⟩
      clear hsc
      replace hbr := hbr.trans (hb14.mono hbr.size)
      replace hb := hb.trans (hb14.mono hb.size)
      replace hV := Lib.hid (hV.out.below hb14)
      replace hRw := Lib.hid (hRw.out.below hb14)
      replace hIn := Lib.hid (hIn.out.below hb14)
      replace hrx := Lib.hid (hrx.out.below hb14)
      replace hdx := Lib.hid (hdx.out.below hb14)
      replace hry := Lib.hid (hry.out.below hb14)
      replace hdy := Lib.hid (hdy.out.below hb14)
      replace hda := Lib.hid (hda.out.below hb14)
      replace hra := Lib.hid (hra.out.below hb14)
      replace hdb := Lib.hid (hdb.out.below hb14)
      replace hrb := Lib.hid (hrb.out.below hb14)
      replace hdr := Lib.hid (hdr.out.below hb14)
      replace hds := Lib.hid (hds.out.below hb14)
      clear hb14
      have hF : FinS w.heap.size N L (.slice pp k cc) vs (.slice qa ma ka) (.slice qb mb kb) (.slice (some ⟨gx, 0, none⟩) n1 kx) (.slice (some ⟨gy, 0, none⟩) n2 ky) w6.heap.size w7.heap.size wr.heap.size w5.heap.size w14 := ⟨hV.out, hRw.out, hIn.out, hra.out, hrb.out, hrx.out, hry.out⟩
      have hap : ∀ w', FinS w.heap.size N L (.slice pp k cc) vs (.slice qa ma ka) (.slice qb mb kb) (.slice (some ⟨gx, 0, none⟩) n1 kx) (.slice (some ⟨gy, 0, none⟩) n2 ky) w6.heap.size w7.heap.size wr.heap.size w5.heap.size w' → Rws w.heap.size (vs ++ [.slice qa ma ka, .slice qb mb kb, .slice (some ⟨gx, 0, none⟩) n1 kx, .slice (some ⟨gy, 0, none⟩) n2 ky]) w' := fun w' h => h.rws hsw hvlt.out hltx.out hlty.out hlta.out hsx hsy hsa
      replace hF := Lib.hid hF
      replace hap := Lib.hid hap
      clear hV hRw hIn hra hrb hrx hry hda hdb hdx hdy hdr hds hRa hRb hRr hRs hva hvb hvr hvs hvlt hltx hlty hlta hltb hsx hsy hsa hsb hma hmb hmr hms hbr h1 h2 hR
      obtain ⟨FS, hFS⟩ : ∃ FS : World → Prop, FS = FinS w.heap.size N L (.slice pp k cc) vs (.slice qa ma ka) (.slice qb mb kb) (.slice (some ⟨gx, 0, none⟩) n1 kx) (.slice (some ⟨gy, 0, none⟩) n2 ky) w6.heap.size w7.heap.size wr.heap.size w5.heap.size := ⟨_, rfl⟩
      rw [← hFS] at hF hap
      have hFb : ∀ w1 w2, FS w1 → Below w1.heap.size w1 w2 → FS w2 := by rw [hFS]; exact fun w1 w2 h hb => h.below hb
      have hFp : ∀ w1, FS w1 → PV w.heap.size w1 (.slice pp k cc) vs := by rw [hFS]; exact fun w1 h => h.1
      have hFi : ∀ w1, FS w1 → InS w1 N L vs := by rw [hFS]; exact fun w1 h => h.2.2.1
      clear hFS
      replace hFb := Lib.hid hFb
      replace hFp := Lib.hid hFp
      replace hFi := Lib.hid hFi
      replace hl := Lib.hid hl
      go_wp2
      go_loopw [13] (fun i wr => ∃ j : Nat, j ≤ k ∧ i = .int .i64 j ∧ FS wr ∧ Below w.heap.size w wr) (fun i _ => (k - intOf i).toNat)
      case atStart => exact ⟨0, Nat.zero_le _, rfl, hF.out, hb⟩
      case round =>
        clear hF hb
        rename_i wr0 _
        obtain ⟨j, hj, hi, hF, hb⟩ := hrel
        subst hi
        by_cases hjk : j = k
        · subst hjk
          clear hj hgd hcell hN hL
          have ho0 : (wr.alloc (.cells #[] 23)).ownsRow wr.heap.size 23 1 (.slice (some ⟨wr.heap.size, 0, none⟩) 0 0) 0 [] := ⟨rfl, .inr ⟨wr.heap.size, 0, #[], rfl, Nat.le_refl _, heap_alloc_new wr _, Nat.le_refl _, Nat.zero_le _, rfl, rfl⟩⟩
          have hba : Below wr.heap.size wr (wr.alloc (.cells #[] 23)) := (Below.refl _ _).alloc (Nat.le_refl _) _
          have hX0 : RowAt (wr.alloc (.cells #[] 23)) pp j (fun i => vs.getD i undef) := by
            obtain ⟨p', c', e9, hra⟩ := pv_rows (hFp.out _ (hFb.out _ _ hF hba)) (F := fun i => vs.getD i undef) (fun _ _ => rfl)
            injection e9 with e9a e9b _
            subst e9a
            rw [hl.out] at hra
            exact hra
          have h1c : ∀ u ∈ vs, u.oneCell' = true := fun u hu => by
            obtain ⟨i, hi, rfl⟩ := List.getElem_of_mem hu
            obtain ⟨_, _, _, e9, _⟩ := hFi.out _ hF i hi
            rw [List.getD_eq_getElem?_getD, List.getElem?_eq_getElem hi] at e9
            simp only [Option.getD_some] at e9
            rw [e9]
            rfl
          have hdone : ∀ w5, FS w5 → w.heap.size ≤ w5.heap.size → ∀ A CA, RowP w5 A CA (vs ++ [.slice qa ma ka, .slice qb mb kb, .slice (some ⟨gx, 0, none⟩) n1 kx, .slice (some ⟨gy, 0, none⟩) n2 ky]) → Calls Tryz.prog 14 #[.slice (some ⟨A, 0, none⟩) (j + 4) CA] w5 fun e w' => e = .returned (.bool true) ∧ Below w.heap.size w5 w' := fun w5 hF5 hsz5 A CA hP5 => apartDots_c w.heap.size A CA (j + 4) _ (by omega) (by omega) (by rw [List.length_append, hl.out]; rfl) w5 hP5 (hap.out w5 hF5) hsz5
          have hF9 := hFb.out
          replace ho0 := Lib.hid ho0
          replace hX0 := Lib.hid hX0
          replace h1c := Lib.hid h1c
          replace hdone := Lib.hid hdone
          replace hF := Lib.hid hF
          replace hF9 := Lib.hid hF9
          have hszb := hb.size
          clear hap hFp hFi hFb
          go_wp2_with (first
            | (at_builtin; refine wpList_appR rfl rfl rfl ho0.out rfl hl.out hX0.out h1c.out (by omega) (by simp) ?_; intro v4 w4 ho4 hg4; have hb4 : Below wr.heap.size wr w4 := hba.grown hg4 (by simp) (fun k hk => (ho0.out.lt k hk).1); have ho5 := Lib.hid (ho4.alloc (.cells #[.slice qa ma ka, .slice qb mb kb, .slice (some ⟨gx, 0, none⟩) n1 kx, .slice (some ⟨gy, 0, none⟩) n2 ky] 23)); have hX5 : RowAt (w4.alloc (.cells #[.slice qa ma ka, .slice qb mb kb, .slice (some ⟨gx, 0, none⟩) n1 kx, .slice (some ⟨gy, 0, none⟩) n2 ky] 23)) (some ⟨w4.heap.size, 0, none⟩) 4 (fun i => [.slice qa ma ka, .slice qb mb kb, .slice (some ⟨gx, 0, none⟩) n1 kx, .slice (some ⟨gy, 0, none⟩) n2 ky].getD i undef) := rows_at (Blk.new w4 _ _) 4 _ (fun i hi => by have h : i = 0 ∨ i = 1 ∨ i = 2 ∨ i = 3 := (by omega); rcases h with rfl | rfl | rfl | rfl <;> rfl); have hb5 : Below wr.heap.size wr (w4.alloc (.cells #[.slice qa ma ka, .slice qb mb kb, .slice (some ⟨gx, 0, none⟩) n1 kx, .slice (some ⟨gy, 0, none⟩) n2 ky] 23)) := hb4.alloc hb4.size _; replace hX5 := Lib.hid hX5; clear ho4 hg4 hb4 ho0 hX0 hba)
            | (at_builtin; refine wpList_appR rfl rfl rfl ho5.out rfl rfl hX5.out (fun u hu => by simp only [List.mem_cons, List.not_mem_nil, or_false] at hu; rcases hu with rfl | rfl | rfl | rfl <;> rfl) (by omega) hb5.size ?_; intro v6 w6 ho6 hg6; have hb6 : Below wr.heap.size wr w6 := hb5.grown hg6 hb5.size (fun k hk => (ho5.out.lt k hk).1); rw [Nat.zero_add, List.nil_append] at ho6; obtain ⟨A, CA, rfl, _, hP6⟩ := rowP_of ho6 (by omega); have hd6 := Lib.hid (hdone.out w6 (hF9.out _ _ hF.out hb6) (Nat.le_trans hszb hb6.size) A CA hP6); have hb9 := hb.trans (hb6.mono hszb); clear ho6 hg6 hP6 hX5 ho5 hb5 hb6))
          refine hd6.out.mono ?_
          rintro e w7 ⟨rfl, hb7⟩
          have hbz : Below w.heap.size w w7 := hb9.trans hb7
          clear hd6
          go_wp2
          go_returns
          exact ⟨rfl, hbz⟩
        · have hj0 : (0 : Int) ≤ (j : Int) := by omega
          have hj1 : (j : Int) < (k : Int) := by omega
          have hj2 : j < k := by omega
          obtain ⟨g, o, rfl, hgl, c0⟩ := hcell.out _ hb j hj2
          obtain ⟨ga, cap, f, a1, a2, a3, _⟩ := hFi.out _ hF j (by rw [hl.out]; exact hj2)
          have hpv := hFp.out _ hF
          rcases hpv with ⟨_, h0⟩ | ⟨Lb, Cb, e9, _, hRP⟩
          · rw [h0] at hl; have := hl.out; simp at this; omega
          · injection e9 with e9 e9b e9c
            clear e9b e9c
            subst e9
            have d0 : wr.cell? ⟨Lb, j, none⟩ = some (.slice (some ⟨ga, 0, none⟩) (N j) cap) := (hRP.cells j (by rw [hl.out]; exact hj2)).trans (by rw [a1])
            have ltL := hRP.lt
            have ltg : g < wr.heap.size := Nat.lt_of_lt_of_le hgl hb.size
            have hkp := fun w' hb2 => keptDots_c ga cap (P j) (N j) (C j) (L j) (by have := hN.out j hj2; omega) a2 w' (a3.below (w := wr) (w' := w') hb2) (((hL.out j hj2).below hb).below hb2)
            have hbc : Below wr.heap.size wr wr.drew := (Below.refl _ _).drew
            replace hkp := Lib.hid hkp
            replace hF := Lib.hid hF
            clear hRP a1 a2 a3 hj hjk
            go_wp2
            go_region_held3 (fun w' => w'.cell? ⟨Lb, j, none⟩ = some (.slice (some ⟨ga, 0, none⟩) (N j) cap) ∧ w'.cell? ⟨g, o + j, none⟩ = some (.slice (P j) (N j) (C j))) (first | exact ⟨(hbc.cell (p := ⟨Lb, j, none⟩) ltL).trans d0, (hbc.cell (p := ⟨g, o + j, none⟩) ltg).trans c0⟩ | exact ⟨d0, c0⟩) (first
              | (go_at_call 13; refine (hkp.out _ hbc).mono ?_; rintro e w2 ⟨rfl, hb2⟩; replace hbc := hbc.trans (hb2.mono hbc.size); clear hb2 hkp))
            have hF2 := Lib.hid (hFb.out _ _ hF.out hbc)
            have hb2 := hb.trans (hbc.mono hb.size)
            clear d0 c0 hbc hF
            go_wp2
            exact ⟨⟨j + 1, by omega, by rw [Int.natCast_add]; rfl, hF2.out, hb2⟩, by simp [intOf]; omega⟩
    · have hk0 : (0 : Int) ≤ (k : Int) := by omega
      have hk1 : (k : Int) < (n : Int) := by omega
      have hk2 : k < n := by omega
      obtain ⟨g, o, rfl, _, c0⟩ := hcell.out wr hb k hk2
      have hNk := hN.out k hk2
      have hlen := (hL.out k hk2).1
      have hll := lentDots_c (P k) (N k) (C k) (L k) (by omega) wr ((hL.out k hk2).below hb)
      replace hll := Lib.hid hll
      replace hV := Lib.hid hV
      replace hRw := Lib.hid hRw
      replace hIn := Lib.hid hIn
      replace hl := Lib.hid hl
      clear hk he
      go_wp2_with fail
      refine hll.out.mono ?_
      rintro e w3 ⟨gx, kx, rfl, hkx, ho, hb3⟩
      have hba : Below wr.heap.size wr (w3.alloc (.cells #[.slice (some ⟨gx, 0, none⟩) (N k) kx] 23)) := hb3.alloc hb3.size _
      have hoa := ho.alloc (.cells #[.slice (some ⟨gx, 0, none⟩) (N k) kx] 23)
      obtain ⟨f, hRf⟩ := rowE_lent hoa
      have hRy := rowy_lent hoa (by omega)
      have hDl := own_dots hoa
      have hVa := hV.out.below hba
      have hRa := (hRw.out.below hba).snoc2 hRy hb.size (fun i hi b b2 a1 a2 => by have := (hRw.out.blk hi a1).2; have := (hRy.blk a2).1; omega)
      have hIa := (hIn.out.below hba).snoc hl.out hkx hDl hRf
      have hca : (w3.alloc (.cells #[.slice (some ⟨gx, 0, none⟩) (N k) kx] 23)).cell? ⟨w3.heap.size, 0, none⟩ = some (.slice (some ⟨gx, 0, none⟩) (N k) kx) := (Blk.new w3 _ _).cell 0
      have hbb := hb.trans (hba.mono hb.size)
      replace hVa := Lib.hid hVa
      replace hRa := Lib.hid hRa
      replace hIa := Lib.hid hIa
      replace hca := Lib.hid hca
      clear ho hb3 hba hoa hRf hRy hDl hll hV hRw hIn hb hlen
      go_wp2_with (at_builtin; refine wpList_appV rfl rfl rfl hVa.out rfl (.slice (some ⟨gx, 0, none⟩) (N k) kx) rfl hca.out (by rw [hl.out]; omega) hbb.size ?_; intro v4 w4 hV4 hg4 _; have hb4 : Below w.heap.size w w4 := hbb.grown hg4 hbb.size (fun k hk => (hVa.out.own k hk).1); have hR4 := Lib.hid (hRa.out.grown hg4 hVa.out.row); have hI4 := Lib.hid (hIa.out.grown hg4 hVa.out.row); replace hV4 := Lib.hid hV4; clear hg4 hRa hIa hVa hca hbb)
      exact ⟨⟨k + 1, _, by omega, by rw [Int.natCast_add]; rfl, by rw [List.length_append, hl.out]; rfl, hV4.out, hR4.out, hI4.out, hb4⟩, by simp [intOf]; omega⟩
end Go.Proofs.YtofgkfdfondajaaGreat
