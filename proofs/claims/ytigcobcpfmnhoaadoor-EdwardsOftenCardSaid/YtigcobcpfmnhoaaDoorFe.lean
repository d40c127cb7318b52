/- Plain arithmetic of the field's elements: five parts of 51 bits. No program is spoken of here. -/
namespace Fe
structure E where
  a0 : Int
  a1 : Int
  a2 : Int
  a3 : Int
  a4 : Int

def p : Int := 57896044618658097711785492504343953926634992332820282019728792003956564819949
def val (e : E) : Int := e.a0 + 2251799813685248 * e.a1 + 5070602400912917605986812821504 * e.a2 + 11417981541647679048466287755595961091061972992 * e.a3 + 25711008708143844408671393477458601640355247900524685364822016 * e.a4

/-- parts below 2^52 -/
def R (e : E) : Prop := (0 ≤ e.a0 ∧ e.a0 < 4503599627370496) ∧ (0 ≤ e.a1 ∧ e.a1 < 4503599627370496) ∧ (0 ≤ e.a2 ∧ e.a2 < 4503599627370496) ∧ (0 ≤ e.a3 ∧ e.a3 < 4503599627370496) ∧ (0 ≤ e.a4 ∧ e.a4 < 4503599627370496)

def carr (e : E) : E := ⟨e.a0 % 2251799813685248 + 19 * (e.a4 / 2251799813685248), e.a1 % 2251799813685248 + e.a0 / 2251799813685248, e.a2 % 2251799813685248 + e.a1 / 2251799813685248, e.a3 % 2251799813685248 + e.a2 / 2251799813685248, e.a4 % 2251799813685248 + e.a3 / 2251799813685248⟩

theorem val_carr (e : E) : val (carr e) = val e - p * (e.a4 / 2251799813685248) := by
  simp only [val, carr, p]
  omega

/-- the sums of products, 19 times what is beyond -/
def conv (a b : E) : E := ⟨a.a0 * b.a0 + 19 * (a.a1 * b.a4) + 19 * (a.a2 * b.a3) + 19 * (a.a3 * b.a2) + 19 * (a.a4 * b.a1),
  a.a0 * b.a1 + a.a1 * b.a0 + 19 * (a.a2 * b.a4) + 19 * (a.a3 * b.a3) + 19 * (a.a4 * b.a2),
  a.a0 * b.a2 + a.a1 * b.a1 + a.a2 * b.a0 + 19 * (a.a3 * b.a4) + 19 * (a.a4 * b.a3),
  a.a0 * b.a3 + a.a1 * b.a2 + a.a2 * b.a1 + a.a3 * b.a0 + 19 * (a.a4 * b.a4),
  a.a0 * b.a4 + a.a1 * b.a3 + a.a2 * b.a2 + a.a3 * b.a1 + a.a4 * b.a0⟩

theorem val_conv (a b : E) : ∃ k, val a * val b = val (conv a b) + p * k := by
  refine ⟨(a.a1 * b.a4 + a.a2 * b.a3 + a.a3 * b.a2 + a.a4 * b.a1) + 2251799813685248 * (a.a2 * b.a4 + a.a3 * b.a3 + a.a4 * b.a2) + 5070602400912917605986812821504 * (a.a3 * b.a4 + a.a4 * b.a3) + 11417981541647679048466287755595961091061972992 * (a.a4 * b.a4), ?_⟩
  simp only [val, conv, p]
  grind

/-- parts that each word holds -/
def W (e : E) : Prop := (0 ≤ e.a0 ∧ e.a0 ≤ 18446744073709551615) ∧ (0 ≤ e.a1 ∧ e.a1 ≤ 18446744073709551615) ∧ (0 ≤ e.a2 ∧ e.a2 ≤ 18446744073709551615) ∧ (0 ≤ e.a3 ∧ e.a3 ≤ 18446744073709551615) ∧ (0 ≤ e.a4 ∧ e.a4 ≤ 18446744073709551615)

theorem R.w {e : E} (h : R e) : W e := by simp only [R, W] at *; omega

def wr (x : Int) : Int := x % 18446744073709551616

theorem carr_w {e : E} (h : W e) : W (carr e) := by simp only [W, carr] at *; omega
theorem carr_r {e : E} (h : (0 ≤ e.a0 ∧ e.a0 ≤ 118208995221734523) ∧ (0 ≤ e.a1 ∧ e.a1 ≤ 1152921504606846975) ∧ (0 ≤ e.a2 ∧ e.a2 ≤ 1152921504606846975) ∧ (0 ≤ e.a3 ∧ e.a3 ≤ 1152921504606846975) ∧ (0 ≤ e.a4 ∧ e.a4 ≤ 118208995221734523)) : R (carr e) := by simp only [R, carr] at *; omega

def addE (a b : E) : E := carr ⟨wr (a.a0 + b.a0), wr (a.a1 + b.a1), wr (a.a2 + b.a2), wr (a.a3 + b.a3), wr (a.a4 + b.a4)⟩
theorem wr_w (x0 x1 x2 x3 x4 : Int) : W ⟨wr x0, wr x1, wr x2, wr x3, wr x4⟩ := by simp only [W, wr]; omega
theorem wr_id {x : Int} (h : 0 ≤ x ∧ x ≤ 18446744073709551615) : wr x = x := by unfold wr; omega
theorem addE_r {a b : E} (ha : R a) (hb : R b) : R (addE a b) ∧ ∃ k, val (addE a b) = val a + val b + p * k := by
  have e : addE a b = carr ⟨a.a0 + b.a0, a.a1 + b.a1, a.a2 + b.a2, a.a3 + b.a3, a.a4 + b.a4⟩ := by
    simp only [R] at ha hb
    unfold addE
    rw [wr_id (by omega), wr_id (by omega), wr_id (by omega), wr_id (by omega), wr_id (by omega)]
  rw [e]
  refine ⟨carr_r (by simp only [R] at *; omega), -((a.a4 + b.a4) / 2251799813685248), ?_⟩
  rw [val_carr]
  simp only [val]
  grind

def subE (a b : E) : E := carr ⟨wr (wr (a.a0 + wr (9007199254740988 - b.a0)) - 72), wr (a.a1 + wr (9007199254740988 - b.a1)), wr (a.a2 + wr (9007199254740988 - b.a2)), wr (a.a3 + wr (9007199254740988 - b.a3)), wr (a.a4 + wr (9007199254740988 - b.a4))⟩
theorem subE_w (a b : E) : W (subE a b) := carr_w (wr_w _ _ _ _ _)
theorem subE_r {a b : E} (ha : R a) (hb : R b) : R (subE a b) ∧ ∃ k, val (subE a b) = val a - val b + p * k := by
  have e : subE a b = carr ⟨a.a0 + (9007199254740988 - b.a0) - 72, a.a1 + (9007199254740988 - b.a1), a.a2 + (9007199254740988 - b.a2), a.a3 + (9007199254740988 - b.a3), a.a4 + (9007199254740988 - b.a4)⟩ := by
    simp only [R] at ha hb
    unfold subE
    simp only [wr_id (x := 9007199254740988 - b.a0) (by omega), wr_id (x := 9007199254740988 - b.a1) (by omega), wr_id (x := 9007199254740988 - b.a2) (by omega), wr_id (x := 9007199254740988 - b.a3) (by omega), wr_id (x := 9007199254740988 - b.a4) (by omega)]
    simp only [wr_id (x := a.a0 + (9007199254740988 - b.a0)) (by omega)]
    rw [wr_id (by omega), wr_id (by omega), wr_id (by omega), wr_id (by omega), wr_id (by omega)]
  rw [e]
  refine ⟨carr_r (by simp only [R] at *; omega), 4 - ((a.a4 + (9007199254740988 - b.a4)) / 2251799813685248), ?_⟩
  rw [val_carr]
  simp only [val, p]
  grind

def t5 (x0 y0 x1 y1 x2 y2 x3 y3 x4 y4 : Int) : Int := (x0 * y0 + x1 * y1 + x2 * y2 + x3 * y3 + x4 * y4) % 340282366920938463463374607431768211456
def lw (T : Int) : Int := T % 2251799813685248
def up (T : Int) : Int := wr (T / 2251799813685248)
/-- what the five sums of products become, before the carries -/
def mulT (T0 T1 T2 T3 T4 : Int) : E := ⟨wr (lw T0 + up T4 * 19 % 18446744073709551616 % 2251799813685248), wr (wr (lw T1 + up T0) + wr (up T4 * 19 / 2251799813685248)), wr (lw T2 + up T1), wr (lw T3 + up T2), wr (lw T4 + up T3)⟩
def mulE (a b : E) : E :=
  carr (carr (mulT (t5 a.a0 b.a0 a.a1 (wr (19 * b.a4)) a.a2 (wr (19 * b.a3)) a.a3 (wr (19 * b.a2)) a.a4 (wr (19 * b.a1)))
    (t5 a.a0 b.a1 a.a1 b.a0 a.a2 (wr (19 * b.a4)) a.a3 (wr (19 * b.a3)) a.a4 (wr (19 * b.a2)))
    (t5 a.a0 b.a2 a.a1 b.a1 a.a2 b.a0 a.a3 (wr (19 * b.a4)) a.a4 (wr (19 * b.a3)))
    (t5 a.a0 b.a3 a.a1 b.a2 a.a2 b.a1 a.a3 b.a0 a.a4 (wr (19 * b.a4)))
    (t5 a.a0 b.a4 a.a1 b.a3 a.a2 b.a2 a.a3 b.a1 a.a4 b.a0)))
theorem mulT_w (T0 T1 T2 T3 T4 : Int) : W (mulT T0 T1 T2 T3 T4) := wr_w _ _ _ _ _
theorem mulE_w (a b : E) : W (mulE a b) := carr_w (carr_w (mulT_w _ _ _ _ _))

/-- a product of two small elements: below 5 * 19 * 2^104 -/
theorem prod_le {a b : Int} (ha : 0 ≤ a ∧ a < 4503599627370496) (hb : 0 ≤ b ∧ b < 4503599627370496) : 0 ≤ a * b ∧ a * b ≤ 20282409603651670423947251286016 := by
  refine ⟨Int.mul_nonneg ha.1 hb.1, ?_⟩
  have := Int.mul_le_mul (show a ≤ 4503599627370496 by omega) (show b ≤ 4503599627370496 by omega) hb.1 (by omega)
  simpa using this

theorem mulE_r {a b : E} (ha : R a) (hb : R b) : R (mulE a b) ∧ ∃ k, val (mulE a b) = val a * val b + p * k := by
  obtain ⟨a0, a1, a2, a3, a4⟩ := a
  obtain ⟨b0, b1, b2, b3, b4⟩ := b
  obtain ⟨k, hk⟩ := val_conv ⟨a0, a1, a2, a3, a4⟩ ⟨b0, b1, b2, b3, b4⟩
  rw [hk]
  simp only [R] at ha hb
  obtain ⟨ha0, ha1, ha2, ha3, ha4⟩ := ha
  obtain ⟨hb0, hb1, hb2, hb3, hb4⟩ := hb
  have w19 : ∀ {x : Int}, 0 ≤ x ∧ x < 4503599627370496 → wr (19 * x) = 19 * x := fun h => wr_id (by omega)
  simp only [mulE, w19 hb1, w19 hb2, w19 hb3, w19 hb4]
  have e : ∀ x y : Int, x * (19 * y) = 19 * (x * y) := fun x y => by rw [← Int.mul_assoc, Int.mul_comm x 19, Int.mul_assoc]
  simp only [t5, e, conv]
  have p00 := prod_le ha0 hb0; have p01 := prod_le ha0 hb1; have p02 := prod_le ha0 hb2; have p03 := prod_le ha0 hb3; have p04 := prod_le ha0 hb4
  have p10 := prod_le ha1 hb0; have p11 := prod_le ha1 hb1; have p12 := prod_le ha1 hb2; have p13 := prod_le ha1 hb3; have p14 := prod_le ha1 hb4
  have p20 := prod_le ha2 hb0; have p21 := prod_le ha2 hb1; have p22 := prod_le ha2 hb2; have p23 := prod_le ha2 hb3; have p24 := prod_le ha2 hb4
  have p30 := prod_le ha3 hb0; have p31 := prod_le ha3 hb1; have p32 := prod_le ha3 hb2; have p33 := prod_le ha3 hb3; have p34 := prod_le ha3 hb4
  have p40 := prod_le ha4 hb0; have p41 := prod_le ha4 hb1; have p42 := prod_le ha4 hb2; have p43 := prod_le ha4 hb3; have p44 := prod_le ha4 hb4
  generalize hr0 : a0 * b0 + 19 * (a1 * b4) + 19 * (a2 * b3) + 19 * (a3 * b2) + 19 * (a4 * b1) = r0
  generalize hr1 : a0 * b1 + a1 * b0 + 19 * (a2 * b4) + 19 * (a3 * b3) + 19 * (a4 * b2) = r1
  generalize hr2 : a0 * b2 + a1 * b1 + a2 * b0 + 19 * (a3 * b4) + 19 * (a4 * b3) = r2
  generalize hr3 : a0 * b3 + a1 * b2 + a2 * b1 + a3 * b0 + 19 * (a4 * b4) = r3
  generalize hr4 : a0 * b4 + a1 * b3 + a2 * b2 + a3 * b1 + a4 * b0 = r4
  have q0 : 0 ≤ r0 ∧ r0 ≤ 1926828912346908690274988872171520 := by omega
  have q1 : 0 ≤ r1 ∧ r1 ≤ 1926828912346908690274988872171520 := by omega
  have q2 : 0 ≤ r2 ∧ r2 ≤ 1926828912346908690274988872171520 := by omega
  have q3 : 0 ≤ r3 ∧ r3 ≤ 1926828912346908690274988872171520 := by omega
  have q4 : 0 ≤ r4 ∧ r4 ≤ 101412048018258352119736256430080 := by omega
  clear hr0 hr1 hr2 hr3 hr4 p00 p01 p02 p03 p04 p10 p11 p12 p13 p14 p20 p21 p22 p23 p24 p30 p31 p32 p33 p34 p40 p41 p42 p43 p44 hk
  have m : ∀ {r : Int}, 0 ≤ r ∧ r ≤ 1926828912346908690274988872171520 → r % 340282366920938463463374607431768211456 = r := fun h => by omega
  rw [m q0, m q1, m q2, m q3, m (by omega)]
  have u : ∀ {r : Int}, 0 ≤ r ∧ r ≤ 1926828912346908690274988872171520 → up r = r / 2251799813685248 := fun h => by unfold up wr; omega
  have hM : mulT r0 r1 r2 r3 r4 = ⟨r0 % 2251799813685248 + r4 / 2251799813685248 * 19 % 2251799813685248, r1 % 2251799813685248 + r0 / 2251799813685248 + r4 / 2251799813685248 * 19 / 2251799813685248, r2 % 2251799813685248 + r1 / 2251799813685248, r3 % 2251799813685248 + r2 / 2251799813685248, r4 % 2251799813685248 + r3 / 2251799813685248⟩ := by
    unfold mulT lw
    rw [u q0, u q1, u q2, u q3, u (r := r4) (by omega)]
    have em : r4 / 2251799813685248 * 19 % 18446744073709551616 % 2251799813685248 = r4 / 2251799813685248 * 19 % 2251799813685248 := Int.emod_emod_of_dvd _ (by decide)
    rw [em]
    clear em u m w19 e ha0 ha1 ha2 ha3 ha4 hb0 hb1 hb2 hb3 hb4
    simp only [E.mk.injEq, wr]
    refine ⟨?_, ?_, ?_, ?_, ?_⟩ <;> omega
  rw [hM]
  clear hM u m w19 e ha0 ha1 ha2 ha3 ha4 hb0 hb1 hb2 hb3 hb4
  have h1 : val ⟨r0 % 2251799813685248 + r4 / 2251799813685248 * 19 % 2251799813685248, r1 % 2251799813685248 + r0 / 2251799813685248 + r4 / 2251799813685248 * 19 / 2251799813685248, r2 % 2251799813685248 + r1 / 2251799813685248, r3 % 2251799813685248 + r2 / 2251799813685248, r4 % 2251799813685248 + r3 / 2251799813685248⟩ =
      val ⟨r0, r1, r2, r3, r4⟩ - p * (r4 / 2251799813685248) := by
    simp only [val, p]
    omega
  refine ⟨?_, ?_⟩
  · refine carr_r ?_
    simp only [carr]
    omega
  · rw [val_carr, val_carr, h1]
    generalize val ⟨r0, r1, r2, r3, r4⟩ = V
    generalize (carr ⟨r0 % 2251799813685248 + r4 / 2251799813685248 * 19 % 2251799813685248, r1 % 2251799813685248 + r0 / 2251799813685248 + r4 / 2251799813685248 * 19 / 2251799813685248, r2 % 2251799813685248 + r1 / 2251799813685248, r3 % 2251799813685248 + r2 / 2251799813685248, r4 % 2251799813685248 + r3 / 2251799813685248⟩).a4 / 2251799813685248 = x
    generalize (r4 % 2251799813685248 + r3 / 2251799813685248) / 2251799813685248 = y
    generalize r4 / 2251799813685248 = z
    exact ⟨-k - z - y - x, by simp only [p]; omega⟩

/-- the digits that stand for a number below 2^255 -/
def D (e : E) : Prop := (0 ≤ e.a0 ∧ e.a0 < 2251799813685248) ∧ (0 ≤ e.a1 ∧ e.a1 < 2251799813685248) ∧ (0 ≤ e.a2 ∧ e.a2 < 2251799813685248) ∧ (0 ≤ e.a3 ∧ e.a3 < 2251799813685248) ∧ (0 ≤ e.a4 ∧ e.a4 < 2251799813685248)

theorem D.inj {a b : E} (ha : D a) (hb : D b) (h : val a = val b) : a = b := by
  obtain ⟨x0, x1, x2, x3, x4⟩ := a
  obtain ⟨y0, y1, y2, y3, y4⟩ := b
  simp only [D, val, E.mk.injEq] at *
  omega

def qof (e : E) : Int := (e.a4 + (e.a3 + (e.a2 + (e.a1 + (e.a0 + 19) / 2251799813685248) / 2251799813685248) / 2251799813685248) / 2251799813685248) / 2251799813685248
/-- what the last carry leaves -/
def last (e : E) : E :=
  let b0 := e.a0
  let b1 := e.a1 + b0 / 2251799813685248
  let b2 := e.a2 + b1 / 2251799813685248
  let b3 := e.a3 + b2 / 2251799813685248
  let b4 := e.a4 + b3 / 2251799813685248
  ⟨b0 % 2251799813685248, b1 % 2251799813685248, b2 % 2251799813685248, b3 % 2251799813685248, b4 % 2251799813685248⟩

def canonC (c : E) : E := last ⟨c.a0 + 19 * qof c, c.a1, c.a2, c.a3, c.a4⟩
def canon (e : E) : E := canonC (carr (carr e))

theorem canonC_spec {c : E} (h : (0 ≤ c.a0 ∧ c.a0 < 2251799813685348) ∧ (0 ≤ c.a1 ∧ c.a1 ≤ 2251799813685248) ∧ (0 ≤ c.a2 ∧ c.a2 ≤ 2251799813685248) ∧ (0 ≤ c.a3 ∧ c.a3 ≤ 2251799813685248) ∧ (0 ≤ c.a4 ∧ c.a4 ≤ 2251799813685248)) : D (canonC c) ∧ val (canonC c) = val c % p := by
  obtain ⟨x0, x1, x2, x3, x4⟩ := c
  have hq : qof ⟨x0, x1, x2, x3, x4⟩ = (val ⟨x0, x1, x2, x3, x4⟩ + 19) / 57896044618658097711785492504343953926634992332820282019728792003956564819968 := by
    simp only [qof, val]
    omega
  simp only at h
  have hv : 0 ≤ val ⟨x0, x1, x2, x3, x4⟩ ∧ val ⟨x0, x1, x2, x3, x4⟩ < 2 * p := by
    simp only [val, p]; omega
  simp only [canonC]
  rw [hq]
  generalize hV : val ⟨x0, x1, x2, x3, x4⟩ = V at *
  have hl : ∀ y0 y1 y2 y3 y4 : Int, val (last ⟨y0, y1, y2, y3, y4⟩) = val ⟨y0, y1, y2, y3, y4⟩ % 57896044618658097711785492504343953926634992332820282019728792003956564819968 ∧ D (last ⟨y0, y1, y2, y3, y4⟩) := by
    intro y0 y1 y2 y3 y4
    simp only [last, val, D]
    omega
  obtain ⟨h1, h2⟩ := hl (x0 + 19 * ((V + 19) / 57896044618658097711785492504343953926634992332820282019728792003956564819968)) x1 x2 x3 x4
  refine ⟨h2, ?_⟩
  rw [h1]
  have h3 : val ⟨x0 + 19 * ((V + 19) / 57896044618658097711785492504343953926634992332820282019728792003956564819968), x1, x2, x3, x4⟩ = V + 19 * ((V + 19) / 57896044618658097711785492504343953926634992332820282019728792003956564819968) := by
    rw [← hV]; simp only [val]; omega
  rw [h3]
  clear h1 h2 h3 hl hq h hV
  simp only [p] at *
  have hq01 : (V + 19) / 57896044618658097711785492504343953926634992332820282019728792003956564819968 = 0 ∨ (V + 19) / 57896044618658097711785492504343953926634992332820282019728792003956564819968 = 1 := by omega
  rcases hq01 with h | h <;> rw [h] <;> omega

theorem canon_spec {e : E} (h : R e) : D (canon e) ∧ val (canon e) = val e % p := by
  have h1 : (0 ≤ (carr e).a0 ∧ (carr e).a0 < 2251799813685348) ∧ (0 ≤ (carr e).a1 ∧ (carr e).a1 ≤ 2251799813685248) ∧ (0 ≤ (carr e).a2 ∧ (carr e).a2 ≤ 2251799813685248) ∧ (0 ≤ (carr e).a3 ∧ (carr e).a3 ≤ 2251799813685248) ∧ (0 ≤ (carr e).a4 ∧ (carr e).a4 ≤ 2251799813685248) := by
    simp only [R, carr] at *; omega
  have h2 : (0 ≤ (carr (carr e)).a0 ∧ (carr (carr e)).a0 < 2251799813685348) ∧ (0 ≤ (carr (carr e)).a1 ∧ (carr (carr e)).a1 ≤ 2251799813685248) ∧ (0 ≤ (carr (carr e)).a2 ∧ (carr (carr e)).a2 ≤ 2251799813685248) ∧ (0 ≤ (carr (carr e)).a3 ∧ (carr (carr e)).a3 ≤ 2251799813685248) ∧ (0 ≤ (carr (carr e)).a4 ∧ (carr (carr e)).a4 ≤ 2251799813685248) := by
    generalize carr e = c at *
    simp only [carr]; omega
  obtain ⟨h3, h4⟩ := canonC_spec h2
  refine ⟨h3, ?_⟩
  unfold canon
  rw [h4, val_carr, val_carr, Int.sub_emod, Int.mul_emod_right]
  simp [Int.sub_emod]
end Fe
