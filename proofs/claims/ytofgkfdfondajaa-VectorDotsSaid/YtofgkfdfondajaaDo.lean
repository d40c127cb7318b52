/- The walk of VectorDots. -/
import Derived.Test.YtofgkfdfondajaaDl
namespace Go.Proofs.Ytofgkfdfondajaa
open Go.RowKit
theorem covB_val {n m : Nat} {D E : Nat → Int} (hD : RightD n D) (hE : RightD m E) : covB n D m E = true ↔ ∀ c, valD m E c ≤ valD n D c := by
  have h1 : rightD n D = true := decide_eq_true hD
  have h2 : rightD m E = true := decide_eq_true hE
  rw [← covers_val hD hE]
  unfold covB anyF
  rw [h1, h2]
  simp only [Bool.true_and, Bool.not_eq_true', decide_eq_false_iff_not, not_exists, not_and]
  exact ⟨fun h i hi => by have := h i hi; simpa using this, fun h i hi => by simpa using h i hi⟩
theorem hasV_val {n : Nat} {D : Nat → Int} (hD : RightD n D) {c s : Int} (hk : okD c s = true) : hasV n D c s = decide (s ≤ valD n D c) := by
  have h1 : rightD n D = true := decide_eq_true hD
  have h2 := of_decide_eq_true hk
  unfold hasV
  rw [h1, hk, hasD_val hD (by omega)]
  rfl
theorem right1 {x y : Int} (h : rightD 1 (lD [x, y]) = true) : okD x y = true := (of_decide_eq_true h 0 (by decide)).1
theorem dots1 {w : World} {g : Nat} {t : TypeId} {x y : Int} (h : Blk w g t #[.int .i64 x, .int .i64 y]) : DotsL w (some ⟨g, 0, none⟩) 1 [x, y] := dots_blk 1 [x, y] h rfl
set_option maxRecDepth 20000 in
set_option maxHeartbeats 2000000 in
theorem vectorDots_c (p0 : Option Addr) (n0 c0 : Nat) (l0 : List Int) (dc ds oc os : Int) (w : World) (h0 : DotsL w p0 n0 l0) :
    Calls Try.prog 5 #[.slice p0 n0 c0, .agg #[.int .i64 dc, .int .i64 ds], .agg #[.int .i64 oc, .int .i64 os]] w (AwP w) := by
  replace h0 := Lib.hid h0
  go_enter Try.func5, Try.ntmps5
  go_wp2_with fail
  refine calls_at (fun v0 hW => ?_)
  have hX : Blk v0 w.heap.size 24 #[.int .i64 dc, .int .i64 ds] := by rw [hW]; exact (Blk.new w _ _).alloc _
  have hY : Blk v0 (w.heap.size + 1) 24 #[.int .i64 oc, .int .i64 os] := by rw [hW]; exact blk_at (by simp) (Blk.new (w.alloc _) _ _)
  have hb : Below w.heap.size w v0 := by rw [hW]; exact ((Below.refl _ _).alloc (Nat.le_refl _) _).alloc (by simp) _
  clear hW
  obtain ⟨x0, x1⟩ := blk2 hX
  obtain ⟨y0, y1⟩ := blk2 hY
  refine (awake_c v0).mono ?_
  rintro e w1 ⟨rfl, hb1⟩
  replace hX := hX.below hb1
  replace hY := hY.below hb1
  replace hb := hb.trans (hb1.mono hb.size)
  clear hb1
  try clear x0 x1 y0 y1
  obtain ⟨x0, x1⟩ := blk2 hX
  obtain ⟨y0, y1⟩ := blk2 hY
  go_wp2_with fail
  refine calls_at (fun w2 hW => ?_)
  have hB : Blk w2 w1.heap.size 22 #[.slice p0 n0 c0] := by rw [hW]; exact Blk.new _ _ _
  have hb2 : Below w1.heap.size w1 w2 := by rw [hW]; exact (Below.refl _ _).alloc (Nat.le_refl _) _
  clear hW
  replace hX := hX.below hb2
  replace hY := hY.below hb2
  replace hb := hb.trans (hb2.mono hb.size)
  clear hb2
  try clear x0 x1 y0 y1
  obtain ⟨x0, x1⟩ := blk2 hX
  obtain ⟨y0, y1⟩ := blk2 hY
  refine (small_c _ 1 1 (fun _ => p0) (fun _ => n0) (fun _ => c0) w2 (rows_at hB 1 _ (fun i hi => by obtain rfl : i = 0 := (by omega); rfl))).mono ?_
  rintro e w3 ⟨⟨sm, rfl, hsm⟩, hb3⟩
  replace hsm := Lib.hid hsm
  clear hB
  replace hX := hX.below hb3
  replace hY := hY.below hb3
  replace hb := hb.trans (hb3.mono hb.size)
  clear hb3
  try clear x0 x1 y0 y1
  obtain ⟨x0, x1⟩ := blk2 hX
  obtain ⟨y0, y1⟩ := blk2 hY
  cases sm
  · go_wp2
    go_returns
    exact ⟨rfl, hb⟩
  have hn0 : n0 ≤ 1000 := Nat.le_trans ((hsm.out rfl).2 0 (by decide)) (by decide)
  clear hsm
  have hsc := vright_c p0 n0 c0 (lD l0) (by omega) w3 (h0.out.below hb).2
  replace hsc := Lib.hid hsc
  go_wp2_with fail
  refine hsc.out.mono ?_
  rintro e w4 ⟨rfl, hb4⟩
  clear hsc
  replace hX := hX.below hb4
  replace hY := hY.below hb4
  replace hb := hb.trans (hb4.mono hb.size)
  clear hb4
  try clear x0 x1 y0 y1
  obtain ⟨x0, x1⟩ := blk2 hX
  obtain ⟨y0, y1⟩ := blk2 hY
  cases hR0 : rightD n0 (lD l0)
  · clear hR0
    go_wp2
    go_returns
    exact ⟨rfl, hb⟩
  replace hR0 := Lib.hid (show RightD n0 (lD l0) from of_decide_eq_true hR0)
  go_wp2_with fail
  refine calls_at (fun w5 hW => ?_)
  have hB : Blk w5 w4.heap.size 24 #[.int .i64 dc, .int .i64 ds] := by rw [hW]; exact Blk.new _ _ _
  have hb5 : Below w4.heap.size w4 w5 := by rw [hW]; exact (Below.refl _ _).alloc (Nat.le_refl _) _
  clear hW
  replace hX := hX.below hb5
  replace hY := hY.below hb5
  replace hb := hb.trans (hb5.mono hb.size)
  clear hb5
  try clear x0 x1 y0 y1
  obtain ⟨x0, x1⟩ := blk2 hX
  obtain ⟨y0, y1⟩ := blk2 hY
  refine (vright_c _ 1 _ (lD [dc, ds]) (by decide) w5 (dots1 hB).2).mono ?_
  rintro e w6 ⟨rfl, hb6⟩
  clear hB
  replace hX := hX.below hb6
  replace hY := hY.below hb6
  replace hb := hb.trans (hb6.mono hb.size)
  clear hb6
  try clear x0 x1 y0 y1
  obtain ⟨x0, x1⟩ := blk2 hX
  obtain ⟨y0, y1⟩ := blk2 hY
  cases hkd : rightD 1 (lD [dc, ds])
  · clear hkd
    go_wp2
    go_returns
    exact ⟨rfl, hb⟩
  replace hkd := Lib.hid (right1 hkd)
  go_wp2_with fail
  refine calls_at (fun w7 hW => ?_)
  have hB : Blk w7 w6.heap.size 24 #[.int .i64 oc, .int .i64 os] := by rw [hW]; exact Blk.new _ _ _
  have hb7 : Below w6.heap.size w6 w7 := by rw [hW]; exact (Below.refl _ _).alloc (Nat.le_refl _) _
  clear hW
  replace hX := hX.below hb7
  replace hY := hY.below hb7
  replace hb := hb.trans (hb7.mono hb.size)
  clear hb7
  try clear x0 x1 y0 y1
  obtain ⟨x0, x1⟩ := blk2 hX
  obtain ⟨y0, y1⟩ := blk2 hY
  refine (vright_c _ 1 _ (lD [oc, os]) (by decide) w7 (dots1 hB).2).mono ?_
  rintro e w8 ⟨rfl, hb8⟩
  clear hB
  replace hX := hX.below hb8
  replace hY := hY.below hb8
  replace hb := hb.trans (hb8.mono hb.size)
  clear hb8
  try clear x0 x1 y0 y1
  obtain ⟨x0, x1⟩ := blk2 hX
  obtain ⟨y0, y1⟩ := blk2 hY
  cases hko : rightD 1 (lD [oc, os])
  · clear hko
    go_wp2
    go_returns
    exact ⟨rfl, hb⟩
  replace hko := Lib.hid (right1 hko)
  go_wp2_with fail
  refine calls_at (fun w9 hW => ?_)
  have hB : Blk w9 w8.heap.size 24 #[.int .i64 dc, .int .i64 ds] := by rw [hW]; exact Blk.new _ _ _
  have hb9 : Below w8.heap.size w8 w9 := by rw [hW]; exact (Below.refl _ _).alloc (Nat.le_refl _) _
  clear hW
  replace hX := hX.below hb9
  replace hY := hY.below hb9
  replace hb := hb.trans (hb9.mono hb.size)
  clear hb9
  try clear x0 x1 y0 y1
  obtain ⟨x0, x1⟩ := blk2 hX
  obtain ⟨y0, y1⟩ := blk2 hY
  refine (add_c p0 n0 c0 l0 _ 1 _ [dc, ds] hn0 (by decide) w9 (h0.out.below hb) (dots1 hB)).mono ?_
  rintro e w10 ⟨qw, mw, kw, es, rfl, ho, hRw, hv, hb10⟩
  have hE := Lib.hid (own_dots ho)
  clear ho hB
  replace hX := hX.below hb10
  replace hY := hY.below hb10
  replace hb := hb.trans (hb10.mono hb.size)
  clear hb10
  try clear x0 x1 y0 y1
  obtain ⟨x0, x1⟩ := blk2 hX
  obtain ⟨y0, y1⟩ := blk2 hY
  have hmw : mw ≤ 1000 := Nat.le_trans (right_le8 hRw) (by decide)
  have hV : ∀ q, valD mw (lD es) q = if q = dc then max (valD n0 (lD l0) q) ds else valD n0 (lD l0) q := fun q => by
    rw [hv]
    refine (if_pos ⟨decide_eq_true hR0.out, decide_eq_false (fun ⟨i, hi, h⟩ => ?_)⟩).trans rfl
    obtain rfl : i = 0 := by omega
    have h2 : (!okD dc ds) = true := h
    rw [hkd.out] at h2
    cases h2
  clear hv
  have hd : hasV mw (lD es) dc ds = true := by rw [hasV_val hRw hkd.out, hV, if_pos rfl]; exact decide_eq_true (by omega)
  have hcov : covB mw (lD es) n0 (lD l0) = true := (covB_val hRw hR0.out).2 (fun q => by rw [hV]; split <;> omega)
  have hoth : hasV mw (lD es) oc os = decide (os ≤ if oc = dc then max (valD n0 (lD l0) oc) ds else valD n0 (lD l0) oc) := by rw [hasV_val hRw hko.out, hV]
  have hold : hasV n0 (lD l0) oc os = decide (os ≤ valD n0 (lD l0) oc) := hasV_val hR0.out hko.out
  have hrt : rightD mw (lD es) = true := decide_eq_true hRw
  clear hV hRw
  generalize valD n0 (lD l0) oc = vo at *
  have k1 := fun w' hb => vhas_c p0 n0 c0 (lD l0) oc os (by omega) w' ((h0.out.2).below (w := w) (w' := w') hb)
  have k2 := fun w' hb => vright_c qw mw kw (lD es) (by omega) w' ((hE.out.2).below (w := w10) (w' := w') hb)
  have k3 := fun w' hb => vhas_c qw mw kw (lD es) dc ds (by omega) w' ((hE.out.2).below (w := w10) (w' := w') hb)
  have k4 := fun w' hb => vhas_c qw mw kw (lD es) oc os (by omega) w' ((hE.out.2).below (w := w10) (w' := w') hb)
  have k5 := fun w' hb hb2 => covers_c qw mw kw (lD es) p0 n0 c0 (lD l0) (by omega) (by omega) w' ((hE.out.2).below (w := w10) (w' := w') hb) ((h0.out.2).below (w := w) hb2)
  rw [hold] at k1
  rw [hrt] at k2
  rw [hd] at k3
  rw [hoth] at k4
  rw [hcov] at k5
  replace k1 := Lib.hid k1
  replace k2 := Lib.hid k2
  replace k3 := Lib.hid k3
  replace k4 := Lib.hid k4
  replace k5 := Lib.hid k5
  clear hd hcov hoth hold hrt hE
  have hbE := Below.refl w10.heap.size w10
  go_wp2_with fail
  refine (k1.out _ hb).mono ?_
  rintro e w11 ⟨rfl, hb11⟩
  clear k1
  replace hbE := hbE.trans (hb11.mono hbE.size)
  replace hX := hX.below hb11
  replace hY := hY.below hb11
  replace hb := hb.trans (hb11.mono hb.size)
  clear hb11
  try clear x0 x1 y0 y1
  obtain ⟨x0, x1⟩ := blk2 hX
  obtain ⟨y0, y1⟩ := blk2 hY
  by_cases ho : os ≤ vo
  · rw [show decide (os ≤ vo) = true from decide_eq_true ho]
    by_cases hcd : oc = dc
    · subst hcd
      have hval : decide (os ≤ if oc = oc then max vo ds else vo) = true := by
        first | (rw [if_pos (by omega)]) | (rw [if_neg (by omega)])
        first | exact decide_eq_true (by omega) | exact decide_eq_false (by omega)
      rw [hval] at k4
      clear hval
      skip
      go_wp2_with fail
      refine (k2.out _ hbE).mono ?_
      rintro e w12 ⟨rfl, hb12⟩
      clear k2
      replace hbE := hbE.trans (hb12.mono hbE.size)
      replace hX := hX.below hb12
      replace hY := hY.below hb12
      replace hb := hb.trans (hb12.mono hb.size)
      clear hb12
      try clear x0 x1 y0 y1
      obtain ⟨x0, x1⟩ := blk2 hX
      obtain ⟨y0, y1⟩ := blk2 hY
      go_wp2_with fail
      refine (k3.out _ hbE).mono ?_
      rintro e w13 ⟨rfl, hb13⟩
      clear k3
      replace hbE := hbE.trans (hb13.mono hbE.size)
      replace hX := hX.below hb13
      replace hY := hY.below hb13
      replace hb := hb.trans (hb13.mono hb.size)
      clear hb13
      try clear x0 x1 y0 y1
      obtain ⟨x0, x1⟩ := blk2 hX
      obtain ⟨y0, y1⟩ := blk2 hY
      go_wp2_with fail
      refine (k4.out _ hbE).mono ?_
      rintro e w14 ⟨rfl, hb14⟩
      clear k4
      replace hbE := hbE.trans (hb14.mono hbE.size)
      replace hX := hX.below hb14
      replace hY := hY.below hb14
      replace hb := hb.trans (hb14.mono hb.size)
      clear hb14
      try clear x0 x1 y0 y1
      obtain ⟨x0, x1⟩ := blk2 hX
      obtain ⟨y0, y1⟩ := blk2 hY
      go_wp2_with fail
      refine (k5.out _ hbE hb).mono ?_
      rintro e w15 ⟨rfl, hb15⟩
      clear k5
      replace hbE := hbE.trans (hb15.mono hbE.size)
      replace hX := hX.below hb15
      replace hY := hY.below hb15
      replace hb := hb.trans (hb15.mono hb.size)
      clear hb15
      try clear x0 x1 y0 y1
      obtain ⟨x0, x1⟩ := blk2 hX
      obtain ⟨y0, y1⟩ := blk2 hY
      go_wp2
      go_returns
      exact ⟨rfl, hb⟩
    · skip
      have hval : decide (os ≤ if oc = dc then max vo ds else vo) = true := by
        first | (rw [if_pos (by omega)]) | (rw [if_neg (by omega)])
        first | exact decide_eq_true (by omega) | exact decide_eq_false (by omega)
      rw [hval] at k4
      clear hval
      skip
      go_wp2_with fail
      refine (k2.out _ hbE).mono ?_
      rintro e w12 ⟨rfl, hb12⟩
      clear k2
      replace hbE := hbE.trans (hb12.mono hbE.size)
      replace hX := hX.below hb12
      replace hY := hY.below hb12
      replace hb := hb.trans (hb12.mono hb.size)
      clear hb12
      try clear x0 x1 y0 y1
      obtain ⟨x0, x1⟩ := blk2 hX
      obtain ⟨y0, y1⟩ := blk2 hY
      go_wp2_with fail
      refine (k3.out _ hbE).mono ?_
      rintro e w13 ⟨rfl, hb13⟩
      clear k3
      replace hbE := hbE.trans (hb13.mono hbE.size)
      replace hX := hX.below hb13
      replace hY := hY.below hb13
      replace hb := hb.trans (hb13.mono hb.size)
      clear hb13
      try clear x0 x1 y0 y1
      obtain ⟨x0, x1⟩ := blk2 hX
      obtain ⟨y0, y1⟩ := blk2 hY
      go_wp2_with fail
      refine (k4.out _ hbE).mono ?_
      rintro e w14 ⟨rfl, hb14⟩
      clear k4
      replace hbE := hbE.trans (hb14.mono hbE.size)
      replace hX := hX.below hb14
      replace hY := hY.below hb14
      replace hb := hb.trans (hb14.mono hb.size)
      clear hb14
      try clear x0 x1 y0 y1
      obtain ⟨x0, x1⟩ := blk2 hX
      obtain ⟨y0, y1⟩ := blk2 hY
      go_wp2_with fail
      refine (k5.out _ hbE hb).mono ?_
      rintro e w15 ⟨rfl, hb15⟩
      clear k5
      replace hbE := hbE.trans (hb15.mono hbE.size)
      replace hX := hX.below hb15
      replace hY := hY.below hb15
      replace hb := hb.trans (hb15.mono hb.size)
      clear hb15
      try clear x0 x1 y0 y1
      obtain ⟨x0, x1⟩ := blk2 hX
      obtain ⟨y0, y1⟩ := blk2 hY
      go_wp2
      go_returns
      exact ⟨rfl, hb⟩
  rw [show decide (os ≤ vo) = false from decide_eq_false ho]
  by_cases hcd : oc = dc
  · subst hcd
    by_cases hle : os ≤ ds
    · skip
      have hval : decide (os ≤ if oc = oc then max vo ds else vo) = true := by
        first | (rw [if_pos (by omega)]) | (rw [if_neg (by omega)])
        first | exact decide_eq_true (by omega) | exact decide_eq_false (by omega)
      rw [hval] at k4
      clear hval
      skip
      go_wp2_with fail
      refine (k2.out _ hbE).mono ?_
      rintro e w12 ⟨rfl, hb12⟩
      clear k2
      replace hbE := hbE.trans (hb12.mono hbE.size)
      replace hX := hX.below hb12
      replace hY := hY.below hb12
      replace hb := hb.trans (hb12.mono hb.size)
      clear hb12
      try clear x0 x1 y0 y1
      obtain ⟨x0, x1⟩ := blk2 hX
      obtain ⟨y0, y1⟩ := blk2 hY
      go_wp2_with fail
      refine (k3.out _ hbE).mono ?_
      rintro e w13 ⟨rfl, hb13⟩
      clear k3
      replace hbE := hbE.trans (hb13.mono hbE.size)
      replace hX := hX.below hb13
      replace hY := hY.below hb13
      replace hb := hb.trans (hb13.mono hb.size)
      clear hb13
      try clear x0 x1 y0 y1
      obtain ⟨x0, x1⟩ := blk2 hX
      obtain ⟨y0, y1⟩ := blk2 hY
      go_wp2_with fail
      refine (k4.out _ hbE).mono ?_
      rintro e w14 ⟨rfl, hb14⟩
      clear k4
      replace hbE := hbE.trans (hb14.mono hbE.size)
      replace hX := hX.below hb14
      replace hY := hY.below hb14
      replace hb := hb.trans (hb14.mono hb.size)
      clear hb14
      try clear x0 x1 y0 y1
      obtain ⟨x0, x1⟩ := blk2 hX
      obtain ⟨y0, y1⟩ := blk2 hY
      go_wp2_with fail
      refine (k5.out _ hbE hb).mono ?_
      rintro e w15 ⟨rfl, hb15⟩
      clear k5
      replace hbE := hbE.trans (hb15.mono hbE.size)
      replace hX := hX.below hb15
      replace hY := hY.below hb15
      replace hb := hb.trans (hb15.mono hb.size)
      clear hb15
      try clear x0 x1 y0 y1
      obtain ⟨x0, x1⟩ := blk2 hX
      obtain ⟨y0, y1⟩ := blk2 hY
      go_wp2
      go_returns
      exact ⟨rfl, hb⟩
    · skip
      have hle2 : decide (os ≤ ds) = false := decide_eq_false hle
      have hval : decide (os ≤ if oc = oc then max vo ds else vo) = false := by
        first | (rw [if_pos (by omega)]) | (rw [if_neg (by omega)])
        first | exact decide_eq_true (by omega) | exact decide_eq_false (by omega)
      rw [hval] at k4
      clear hval
      skip
      go_wp2_with fail
      refine (k2.out _ hbE).mono ?_
      rintro e w12 ⟨rfl, hb12⟩
      clear k2
      replace hbE := hbE.trans (hb12.mono hbE.size)
      replace hX := hX.below hb12
      replace hY := hY.below hb12
      replace hb := hb.trans (hb12.mono hb.size)
      clear hb12
      try clear x0 x1 y0 y1
      obtain ⟨x0, x1⟩ := blk2 hX
      obtain ⟨y0, y1⟩ := blk2 hY
      go_wp2_with fail
      refine (k3.out _ hbE).mono ?_
      rintro e w13 ⟨rfl, hb13⟩
      clear k3
      replace hbE := hbE.trans (hb13.mono hbE.size)
      replace hX := hX.below hb13
      replace hY := hY.below hb13
      replace hb := hb.trans (hb13.mono hb.size)
      clear hb13
      try clear x0 x1 y0 y1
      obtain ⟨x0, x1⟩ := blk2 hX
      obtain ⟨y0, y1⟩ := blk2 hY
      go_wp2_with fail
      refine (k4.out _ hbE).mono ?_
      rintro e w14 ⟨rfl, hb14⟩
      clear k4
      replace hbE := hbE.trans (hb14.mono hbE.size)
      replace hX := hX.below hb14
      replace hY := hY.below hb14
      replace hb := hb.trans (hb14.mono hb.size)
      clear hb14
      try clear x0 x1 y0 y1
      obtain ⟨x0, x1⟩ := blk2 hX
      obtain ⟨y0, y1⟩ := blk2 hY
      go_wp2_with fail
      refine (k5.out _ hbE hb).mono ?_
      rintro e w15 ⟨rfl, hb15⟩
      clear k5
      replace hbE := hbE.trans (hb15.mono hbE.size)
      replace hX := hX.below hb15
      replace hY := hY.below hb15
      replace hb := hb.trans (hb15.mono hb.size)
      clear hb15
      try clear x0 x1 y0 y1
      obtain ⟨x0, x1⟩ := blk2 hX
      obtain ⟨y0, y1⟩ := blk2 hY
      go_wp2
      go_returns
      exact ⟨rfl, hb⟩
  have hval : decide (os ≤ if oc = dc then max vo ds else vo) = false := by
    first | (rw [if_pos (by omega)]) | (rw [if_neg (by omega)])
    first | exact decide_eq_true (by omega) | exact decide_eq_false (by omega)
  rw [hval] at k4
  clear hval
  skip
  go_wp2_with fail
  refine (k2.out _ hbE).mono ?_
  rintro e w12 ⟨rfl, hb12⟩
  clear k2
  replace hbE := hbE.trans (hb12.mono hbE.size)
  replace hX := hX.below hb12
  replace hY := hY.below hb12
  replace hb := hb.trans (hb12.mono hb.size)
  clear hb12
  try clear x0 x1 y0 y1
  obtain ⟨x0, x1⟩ := blk2 hX
  obtain ⟨y0, y1⟩ := blk2 hY
  go_wp2_with fail
  refine (k3.out _ hbE).mono ?_
  rintro e w13 ⟨rfl, hb13⟩
  clear k3
  replace hbE := hbE.trans (hb13.mono hbE.size)
  replace hX := hX.below hb13
  replace hY := hY.below hb13
  replace hb := hb.trans (hb13.mono hb.size)
  clear hb13
  try clear x0 x1 y0 y1
  obtain ⟨x0, x1⟩ := blk2 hX
  obtain ⟨y0, y1⟩ := blk2 hY
  go_wp2_with fail
  refine (k4.out _ hbE).mono ?_
  rintro e w14 ⟨rfl, hb14⟩
  clear k4
  replace hbE := hbE.trans (hb14.mono hbE.size)
  replace hX := hX.below hb14
  replace hY := hY.below hb14
  replace hb := hb.trans (hb14.mono hb.size)
  clear hb14
  try clear x0 x1 y0 y1
  obtain ⟨x0, x1⟩ := blk2 hX
  obtain ⟨y0, y1⟩ := blk2 hY
  go_wp2_with fail
  refine (k5.out _ hbE hb).mono ?_
  rintro e w15 ⟨rfl, hb15⟩
  clear k5
  replace hbE := hbE.trans (hb15.mono hbE.size)
  replace hX := hX.below hb15
  replace hY := hY.below hb15
  replace hb := hb.trans (hb15.mono hb.size)
  clear hb15
  try clear x0 x1 y0 y1
  obtain ⟨x0, x1⟩ := blk2 hX
  obtain ⟨y0, y1⟩ := blk2 hY
  go_wp2
  go_returns
  exact ⟨rfl, hb⟩
end Go.Proofs.Ytofgkfdfondajaa
