/- root: Get and Put of anything; there and back. law15: RootBack, walked. RootBack: there and back. -/
import Derived.Test.YtgjffaoggjlamaaGreatDoorNd
import Derived.Test.YtgjffaoggjlamaaGreatDoorNe
import Derived.Deep.RegionHeld3
import Derived.Deep.Cut
namespace Go.Proofs.YtgjffaoggjlamaaGreatDoor
open Go Go.RowKit
theorem eqB_same (n : Nat) (f : Nat → Int) : eqB n f n f = true := decide_eq_true ⟨rfl, fun _ _ => rfl⟩
/-- do bytes say a root? -/
def okG (n : Nat) (b : Nat → Int) : Bool := decide (n = 153) && (decide (b 0 = 2) && shT (getR b) (getH b) (getQ b) 64)
theorem okG_true {n : Nat} {b : Nat → Int} (h : okG n b = true) : n = 153 ∧ b 0 = 2 ∧ shT (getR b) (getH b) (getQ b) 64 = true := by
  unfold okG at h
  simp only [Bool.and_eq_true, decide_eq_true_eq] at h
  exact h
def PostGn (OK : Bool) (b : Nat → Int) (w : World) (e : Ending) (w' : World) : Prop := ∃ p1 n1 c1 p2 n2 c2 r s q code, e = .returned (.tuple #[.agg #[.int .i64 r, .int .i64 s, .int .i64 q, .slice p1 n1 c1, .slice p2 n2 c2], .int .i64 code]) ∧ (OK = true → code = 0 ∧ r = getR b ∧ s = getH b ∧ q = getQ b ∧ n1 = 64 ∧ n2 = 64 ∧ (∃ g1, p1 = some ⟨g1, 0, none⟩ ∧ RowB w' g1 64 c1 (fun j => b (25 + j))) ∧ ∃ g2, p2 = some ⟨g2, 0, none⟩ ∧ RowB w' g2 64 c2 (fun j => b (89 + j))) ∧ (OK = false → code = 4 ∧ r = 0 ∧ s = 0 ∧ q = 0 ∧ p1 = none ∧ n1 = 0 ∧ c1 = 0 ∧ p2 = none ∧ n2 = 0 ∧ c2 = 0) ∧ Below w.heap.size w w'
theorem Get_no (p : Option Addr) (n c : Nat) (b : Nat → Int) (hr : Sc.Byt b) (hc : n ≤ c) (h : okG n b = false) (w : World) (hX : BX [] w p n b) : Calls Tryz.prog 25 #[.slice p n c] w (PostGx w) := by
  by_cases h1 : n = 153
  · subst h1
    obtain ⟨g, o, rfl, hg, -, hcell⟩ := hX (by decide)
    by_cases h2 : b 0 = 2
    · have h3 : shT (getR b) (getH b) (getQ b) 64 = false := by
        unfold okG at h
        simpa [h2] using h
      refine Get_x _ _ _ w (fun gb w1 hb hB => ?_)
      have k := get_c gb g o c b hr hc h2 w1 hB (Nat.lt_of_lt_of_le hg hb.size) (fun j hj => (hb.cell (p := ⟨g, o + j, none⟩) hg).trans (hcell j hj))
      rw [h3] at k
      exact k.mono fun e w' k => k.2 rfl
    · refine Get_x _ _ _ w (fun gb w1 hb hB => ?_)
      exact get_x2 gb g o c (b 0) h2 w1 hB (Nat.lt_of_lt_of_le hg hb.size) ((hb.cell (p := ⟨g, o, none⟩) hg).trans (by have := hcell 0 (by decide); rwa [Nat.add_zero] at this))
  · exact Get_x _ _ _ w (fun gb w1 _ hB => get_x1 gb p n c h1 w1 hB)
theorem Get_n (p : Option Addr) (n c : Nat) (b : Nat → Int) (hr : Sc.Byt b) (hc : n ≤ c) (w : World) (hX : BX [] w p n b) : Calls Tryz.prog 25 #[.slice p n c] w (PostGn (okG n b) b w) := by
  cases h : okG n b with
  | true =>
    obtain ⟨rfl, h2, h3⟩ := okG_true h
    obtain ⟨g, o, rfl, hg, -, hcell⟩ := hX (by decide)
    refine (Get_ok g o c b hr hc h2 h3 w hg hcell).mono fun e w' k => ?_
    obtain ⟨g1, c1, g2, c2, he, _, _, k1, k2, hb⟩ := k
    exact ⟨_, _, _, _, _, _, _, _, _, _, he, fun _ => ⟨rfl, rfl, rfl, rfl, rfl, rfl, ⟨_, rfl, k1⟩, _, rfl, k2⟩, fun h => (by cases h), hb⟩
  | false =>
    refine (Get_no p n c b hr hc h w hX).mono fun e w' k => ?_
    exact ⟨_, _, _, _, _, _, _, _, _, _, k.1, fun h => (by cases h), fun _ => ⟨rfl, rfl, rfl, rfl, rfl, rfl, rfl, rfl, rfl, rfl⟩, k.2⟩
def PostPn (OK : Bool) (F : Nat → Int) (w : World) (e : Ending) (w' : World) : Prop := ∃ p n c code, e = .returned (.tuple #[.slice p n c, .int .i64 code]) ∧ (OK = true → code = 0 ∧ n = 153 ∧ ∃ g, p = some ⟨g, 0, none⟩ ∧ RowB w' g 153 c F) ∧ (OK = false → code = 4) ∧ Below w.heap.size w w'
theorem Put_n (r h q : Int) (p1 : Option Addr) (n1 c1 : Nat) (p2 : Option Addr) (n2 c2 : Nat) (S G : Nat → Int) (hc1 : n1 ≤ c1) (hc2 : n2 ≤ c2) (w : World) (hS : BX [] w p1 n1 S) (hG : BX [] w p2 n2 G) :
    Calls Tryz.prog 26 #[.agg #[.int .i64 r, .int .i64 h, .int .i64 q, .slice p1 n1 c1, .slice p2 n2 c2]] w (PostPn (shT r h q n1 && decide (n2 = 64)) (rpI r h q S G) w) := by
  cases e : (shT r h q n1 && decide (n2 = 64)) with
  | true =>
    have e' := e
    rw [Bool.and_eq_true, decide_eq_true_eq] at e'
    obtain ⟨e1, rfl⟩ := e'
    obtain rfl := (shT_true e1).2.2.2.2.2.2
    refine (Put_ok r h q p1 c1 p2 c2 S G e1 hc1 hc2 w hS hG).mono fun e w' k => ?_
    obtain ⟨g, c, he, _, hR, hb⟩ := k
    exact ⟨_, _, _, _, he, fun _ => ⟨rfl, rfl, g, rfl, hR⟩, fun h => (by cases h), hb⟩
  | false =>
    refine (Put_err r h q p1 n1 c1 p2 n2 c2 e w).mono fun e w' k => ?_
    exact ⟨_, _, _, _, k.1, fun h => (by cases h), fun _ => rfl, k.2⟩
/-- what was got is put as it was -/
theorem Put_got (c1 c2 g1 g2 : Nat) (b : Nat → Int) (hr : Sc.Byt b) (h2 : b 0 = 2) (h3 : shT (getR b) (getH b) (getQ b) 64 = true) (w : World) (hS : RowB w g1 64 c1 (fun j => b (25 + j))) (hG : RowB w g2 64 c2 (fun j => b (89 + j))) :
    Calls Tryz.prog 26 #[.agg #[.int .i64 (getR b), .int .i64 (getH b), .int .i64 (getQ b), .slice (some ⟨g1, 0, none⟩) 64 c1, .slice (some ⟨g2, 0, none⟩) 64 c2]] w (PostB0 153 b w) := by
  refine (Put_ok _ _ _ _ c1 _ c2 _ _ h3 hS.cap hG.cap w hS.bx hG.bx).mono fun e w' k => ?_
  obtain ⟨g, c, he, hg, hR, hb⟩ := k
  exact ⟨g, c, he, hg, hR.congr (fun j hj => get_rp hr h2 h3 j hj), hb⟩
def PostGy (r s q : Int) (S G : Nat → Int) (w : World) (e : Ending) (w' : World) : Prop := ∃ g1 c1 g2 c2, e = .returned (.tuple #[.agg #[.int .i64 r, .int .i64 s, .int .i64 q, .slice (some ⟨g1, 0, none⟩) 64 c1, .slice (some ⟨g2, 0, none⟩) 64 c2], .int .i64 0]) ∧ RowB w' g1 64 c1 S ∧ RowB w' g2 64 c2 G ∧ Below w.heap.size w w'
/-- what was put is got as it was -/
theorem Get_put (g c : Nat) (r s q : Int) (S G : Nat → Int) (e1 : shT r s q 64 = true) (hS : Sc.Byt S) (hG : Sc.Byt G) (w : World) (hR : RowB w g 153 c (rpI r s q S G)) : Calls Tryz.prog 25 #[.slice (some ⟨g, 0, none⟩) 153 c] w (PostGy r s q S G w) := by
  obtain ⟨k0, k1, k2, k3, k4, k5⟩ := rp_get e1 S G
  refine (Get_ok g 0 c _ (rp_byt hS hG) hR.cap k0 (by rw [k1, k2, k3]; exact e1) w hR.lt (fun j hj => by rw [Nat.zero_add]; exact hR.cell j hj)).mono fun e w' k => ?_
  obtain ⟨g1, c1, g2, c2, he, _, _, q1, q2, hb⟩ := k
  rw [k1, k2, k3] at he
  exact ⟨g1, c1, g2, c2, he, q1.congr k4, q2.congr k5, hb⟩
theorem sameRoot_t (r h q : Int) (p2 : Option Addr) (n2 c2 : Nat) (p3 : Option Addr) (n3 c3 : Nat) (pb2 : Option Addr) (cb2 : Nat) (pb3 : Option Addr) (cb3 : Nat) (vs ss : Nat → Int) (hn2 : n2 ≤ 1000000) (hn3 : n3 ≤ 1000000) (w : World) (hV : BAt w p2 n2 vs) (hS : BAt w p3 n3 ss) (hVb : BAt w pb2 n2 vs) (hSb : BAt w pb3 n3 ss) :
    Calls Tryz.prog 29 #[.agg #[.int .i64 r, .int .i64 h, .int .i64 q, .slice p2 n2 c2, .slice p3 n3 c3], .agg #[.int .i64 r, .int .i64 h, .int .i64 q, .slice pb2 n2 cb2, .slice pb3 n3 cb3]] w (PostV (.bool true) w) :=
  (sameRoot_c r h q p2 n2 c2 p3 n3 c3 r h q pb2 n2 cb2 pb3 n3 cb3 vs ss vs ss hn2 hn3 hn2 hn3 w hV hS hVb hSb).mono fun e w' k => ⟨by rw [k.1, eqB_same, eqB_same]; simp, k.2⟩
theorem sameB_t (p1 p2 : Option Addr) (n c1 c2 : Nat) (b : Nat → Int) (hn : n ≤ 1000000) (w : World) (h1 : BAt w p1 n b) (h2 : BAt w p2 n b) : Calls Tryz.prog 28 #[.slice p1 n c1, .slice p2 n c2] w (PostV (.bool true) w) :=
  (sameB_c p1 p2 n c1 n c2 b b hn hn w h1 h2).mono fun e w' k => ⟨by rw [k.1, eqB_same], k.2⟩
end Go.Proofs.YtgjffaoggjlamaaGreatDoor

namespace Go.Proofs.YtgjffaoggjlamaaGreatDoor
open Go Go.RowKit
set_option maxRecDepth 20000 in
set_option maxHeartbeats 16000000 in
theorem back_small (p1 : Option Addr) (n1 c1 : Nat) (F : Nat → Int) (r s q : Int) (p2 : Option Addr) (n2 c2 : Nat) (p3 : Option Addr) (n3 c3 : Nat) (S G : Nat → Int) (p4 : Option Addr) (n4 c4 : Nat) (b : Nat → Int) (hF : Sc.Byt F) (hSr : Sc.Byt S) (hGr : Sc.Byt G) (hbr : Sc.Byt b) (hc1 : n1 ≤ c1) (hc2 : n2 ≤ c2) (hc3 : n3 ≤ c3) (hc4 : n4 ≤ c4) (hn1 : n1 ≤ 1000) (hn4 : n4 ≤ 1000) (hg : (decide (1000 < n2) || decide (1000 < n3)) = false) (w : World) (hX1 : BX [] w p1 n1 F) (hX2 : BX [] w p2 n2 S) (hX3 : BX [] w p3 n3 G) (hX4 : BX [] w p4 n4 b) (hS : ShP w) (hCv : CvP w) :
    Calls Tryz.prog 4 #[.slice p1 n1 c1, .agg #[.int .i64 r, .int .i64 s, .int .i64 q, .slice p2 n2 c2, .slice p3 n3 c3], .slice p4 n4 c4] w (PostV (.bool true) w) := by
  have hB := hS.lt
  have ha := Lib.hid (fun w1 (hb : Below w.heap.size w w1) => awake15_c w1 (hS.below hb hB) (hCv.below hb hCv.lt))
  have hga := fun w1 => great15_c r s q p2 n2 c2 p3 n3 c3 w1
  rw [hg] at hga
  have hn2 : n2 ≤ 1000 := by simp at hg; omega
  have hn3 : n3 ≤ 1000 := by simp at hg; omega
  have hGet := fun w1 (hb : Below w.heap.size w w1) => Get_n p4 n4 c4 b hbr hc4 w1 (hX4.below hb)
  have hOK := fun h : okG n4 b = true => okG_true h
  have hPg := fun (h : okG n4 b = true) c1 c2 g1 g2 w1 => Put_got c1 c2 g1 g2 b hbr (okG_true h).2.1 (okG_true h).2.2 w1
  have hRg := fun (h : okG n4 b = true) p1 c1 p2 c2 w1 => show Calls Tryz.prog 27 #[.agg #[.int .i64 (getR b), .int .i64 (getH b), .int .i64 (getQ b), .slice p1 64 c1, .slice p2 64 c2]] w1 (PostV (.bool true) w1) from (Right_c (getR b) (getH b) (getQ b) p1 64 c1 p2 64 c2 w1).mono fun e w' k => ⟨by rw [k.1, (okG_true h).2.2]; rfl, k.2⟩
  have hSb := fun (h : okG n4 b = true) g c w1 (hR : RowB w1 g 153 c b) (hb : Below w.heap.size w w1) => show Calls Tryz.prog 28 #[.slice p4 n4 c4, .slice (some ⟨g, 0, none⟩) 153 c] w1 (PostV (.bool true) w1) from by
    have e := (okG_true h).1
    have hx := (hX4.below hb).bat
    rw [e] at hx ⊢
    exact sameB_t p4 (some ⟨g, 0, none⟩) 153 c4 c b (by decide) w1 hx (hR.bat (Nat.le_refl _))
  have hSz := fun w1 => sameRoot_t 0 0 0 none 0 0 none 0 0 none 0 none 0 (fun _ => 0) (fun _ => 0) (by decide) (by decide) w1 (fun h => absurd h (by decide)) (fun h => absurd h (by decide)) (fun h => absurd h (by decide)) (fun h => absurd h (by decide))
  have hPr := fun w1 (hb : Below w.heap.size w w1) => Put_n r s q p2 n2 c2 p3 n3 c3 S G hc2 hc3 w1 (hX2.below hb) (hX3.below hb)
  have hRr := fun w1 => Right_c r s q p2 n2 c2 p3 n3 c3 w1
  have hRT : (shT r s q n2 && decide (n3 = 64)) = true → shT r s q 64 = true ∧ n2 = 64 ∧ n3 = 64 := fun e => by
    rw [Bool.and_eq_true, decide_eq_true_eq] at e
    have h := (shT_true e.1).2.2.2.2.2.2
    have h1 := e.1
    rw [h] at h1
    exact ⟨h1, h, e.2⟩
  have hGp := fun (h : (shT r s q n2 && decide (n3 = 64)) = true) g c w1 => Get_put g c r s q S G (hRT h).1 hSr hGr w1
  have hSy := fun (h : (shT r s q n2 && decide (n3 = 64)) = true) g1 c1 g2 d2 w1 (k1 : RowB w1 g1 64 c1 S) (k2 : RowB w1 g2 64 d2 G) (hb : Below w.heap.size w w1) => show Calls Tryz.prog 29 #[.agg #[.int .i64 r, .int .i64 s, .int .i64 q, .slice (some ⟨g1, 0, none⟩) 64 c1, .slice (some ⟨g2, 0, none⟩) 64 d2], .agg #[.int .i64 r, .int .i64 s, .int .i64 q, .slice p2 n2 c2, .slice p3 n3 c3]] w1 (PostV (.bool true) w1) from by
    have h2 := (hX2.below hb).bat
    have h3 := (hX3.below hb).bat
    rw [(hRT h).2.1] at h2 ⊢
    rw [(hRT h).2.2] at h3 ⊢
    exact sameRoot_t r s q _ 64 c1 _ 64 d2 p2 c2 p3 c3 S G (by decide) (by decide) w1 (k1.bat (Nat.le_refl _)) (k2.bat (Nat.le_refl _)) h2 h3
  have hS2 := fun (h : n1 ≠ 32) w1 => Seal_x 2 p1 n1 c1 r s q p2 n2 c2 p3 n3 c3 w1 (fun gr gs w2 _ hB hK => seal_x1 gr gs r s q p2 n2 c2 p3 n3 c3 p1 n1 c1 h w2 hB hK)
  have hS4 := fun (h : shT r s q n2 = false) w1 => Seal_x 4 p1 32 c1 r s q p2 n2 c2 p3 n3 c3 w1 (fun gr gs w2 _ hB hK => seal_x2 gr gs r s q p2 n2 c2 p3 n3 c3 p1 c1 h w2 hB hK)
  have hTr := fun w1 (hb : Below w.heap.size w w1) => Text_n r s q p2 n2 c2 p3 n3 c3 S hc2 w1 (hX2.below hb)
  -- what a seed sealed
  obtain ⟨Q, hQ⟩ : ∃ Q, Q = Sh.sigI F [(89, txI r s q S)] := ⟨_, rfl⟩
  obtain ⟨K, hK⟩ : ∃ K, K = Sh.ptI (Sh.keyP F) := ⟨_, rfl⟩
  have hQr : Sc.Byt Q := by rw [hQ]; exact sig_byt _ _
  have hKr : Sc.Byt K := by rw [hK]; exact key_byt _
  have hv : Sh.verI K Q [(89, txI r s q S)] = true := by rw [hQ, hK]; exact Sh.ver_sig F (fun _ _ => rfl) (fun _ _ => rfl) rfl (fun _ _ => rfl)
  have hSl : ∀ (_ : n1 = 32) (_ : shT r s q n2 = true) (p5 : Option Addr) (c5 : Nat) (p6 : Option Addr) (n6 c6 : Nat) w1 (_ : Below w.heap.size w w1) (_ : BX [] w1 p5 64 S) (_ : 64 ≤ c5), Calls Tryz.prog 30 #[.slice p1 32 c1, .agg #[.int .i64 r, .int .i64 s, .int .i64 q, .slice p5 64 c5, .slice p6 n6 c6]] w1 (fun e w' => ∃ g1 c1 g2 c2, e = .returned (.tuple #[.agg #[.int .i64 r, .int .i64 s, .int .i64 q, .slice (some ⟨g1, 0, none⟩) 64 c1, .slice (some ⟨g2, 0, none⟩) 64 c2], .int .i64 0]) ∧ RowB w' g1 64 c1 S ∧ RowB w' g2 64 c2 Q ∧ Below w1.heap.size w1 w') := fun e1 e2 p5 c5 p6 n6 c6 w1 hb hx hc => by
    have h64 := (shT_true e2).2.2.2.2.2.2
    have e3 := e2
    rw [h64] at e3
    have hx1 := hX1.below hb
    rw [e1] at hx1 hc1
    obtain ⟨gk, ok, rfl, hgk, hnk, hck⟩ := hx1 (by decide)
    refine (Seal_ok gk ok c1 r s q p5 c5 p6 n6 c6 S F e3 hc1 hF (fun j _ => hSr j) w1 hx (fun _ => ⟨gk, ok, rfl, hgk, hnk, hck⟩) (hS.below hb hB) (hCv.below hb hCv.lt)).mono fun e w' k => ?_
    obtain ⟨g1, d1, g2, d2, he, _, _, k1, k2, hbb⟩ := k
    rw [hQ]
    exact ⟨g1, d1, g2, d2, he, k1, k2, hbb⟩
  have hPub := fun (h : n1 = 32) w1 (hb : Below w.heap.size w w1) => show Calls Tryz.prog 18 #[.slice p1 32 c1] w1 (PostBs 32 K w1) from by
    have hx1 := hX1.below hb
    rw [h] at hx1 hc1
    rw [hK]
    exact Public_c p1 c1 F hc1 (fun j _ => hF j) w1 hx1 (hS.below hb hB) (by have := hb.size; omega) (hCv.below hb hCv.lt)
  have hCk := fun (h : shT r s q 64 = true) gk ck g1 c1 g2 c2 w1 (hk : RowB w1 gk 32 ck K) (h1 : RowB w1 g1 64 c1 S) (h2 : RowB w1 g2 64 c2 Q) (hb : Below w.heap.size w w1) => Check_true gk 0 ck g2 0 c2 r s q (some ⟨g1, 0, none⟩) c1 S K Q h h1.cap hk.cap h2.cap hKr hQr (fun j _ => hSr j) hv w1 hk.lt (fun j hj => by rw [Nat.zero_add]; exact hk.cell j hj) h2.lt (fun j hj => by rw [Nat.zero_add]; exact h2.cell j hj) h1.bx (hS.below hb hB) (hCv.below hb hCv.lt)
  have hRs := fun (h : shT r s q 64 = true) p1 c1 p2 c2 w1 => show Calls Tryz.prog 27 #[.agg #[.int .i64 r, .int .i64 s, .int .i64 q, .slice p1 64 c1, .slice p2 64 c2]] w1 (PostV (.bool true) w1) from (Right_c r s q p1 64 c1 p2 64 c2 w1).mono fun e w' k => ⟨by rw [k.1, h]; rfl, k.2⟩
  have hSs := fun g1 c1 g2 c2 g3 c3 g4 c4 w1 (k1 : RowB w1 g1 64 c1 S) (k2 : RowB w1 g2 64 c2 Q) (k3 : RowB w1 g3 64 c3 S) (k4 : RowB w1 g4 64 c4 Q) => sameRoot_t r s q (some ⟨g1, 0, none⟩) 64 c1 (some ⟨g2, 0, none⟩) 64 c2 (some ⟨g3, 0, none⟩) c3 (some ⟨g4, 0, none⟩) c4 S Q (by decide) (by decide) w1 (k1.bat (Nat.le_refl _)) (k2.bat (Nat.le_refl _)) (k3.bat (Nat.le_refl _)) (k4.bat (Nat.le_refl _))
  obtain ⟨TX, hTX⟩ : ∃ T, T = txI r s q S := ⟨_, rfl⟩
  have hTs := fun (h : shT r s q 64 = true) g c p2 c2 w1 (k : RowB w1 g 64 c S) => show Calls Tryz.prog 31 #[.agg #[.int .i64 r, .int .i64 s, .int .i64 q, .slice (some ⟨g, 0, none⟩) 64 c, .slice p2 64 c2]] w1 (PostBs 89 TX w1) from by
    have k := Text_c r s q (some ⟨g, 0, none⟩) 64 c p2 64 c2 S k.cap w1 k.bx
    unfold PostTx at k
    rw [h] at k
    rw [hTX]
    exact k
  have hTb := fun (h : shT r s q n2 = true) w1 (hb : Below w.heap.size w w1) => show Calls Tryz.prog 31 #[.agg #[.int .i64 r, .int .i64 s, .int .i64 q, .slice p2 n2 c2, .slice p3 n3 c3]] w1 (PostBs 89 TX w1) from by
    have k := Text_c r s q p2 n2 c2 p3 n3 c3 S hc2 w1 (hX2.below hb)
    unfold PostTx at k
    rw [h] at k
    rw [hTX]
    exact k
  have hSt := fun g c g' c' w1 (k : RowB w1 g 89 c TX) (k' : RowB w1 g' 89 c' TX) => sameB_t (some ⟨g, 0, none⟩) (some ⟨g', 0, none⟩) 89 c c' TX (by decide) w1 (k.bat (Nat.le_refl _)) (k'.bat (Nat.le_refl _))
  have hsh : shT r s q n2 = true → shT r s q 64 = true := fun h => by
    have h64 := (shT_true h).2.2.2.2.2.2
    rwa [h64] at h
  have hTn : shT r s q n2 = false → ∀ w1, Below w.heap.size w w1 → Calls Tryz.prog 31 #[.agg #[.int .i64 r, .int .i64 s, .int .i64 q, .slice p2 n2 c2, .slice p3 n3 c3]] w1 (PostV (.slice none 0 0) w1) := fun h w1 hb => by
    have k := Text_c r s q p2 n2 c2 p3 n3 c3 S hc2 w1 (hX2.below hb)
    unfold PostTx at k
    rw [h] at k
    exact k
  obtain ⟨RP, hRP⟩ : ∃ R, R = rpI r s q S G := ⟨_, rfl⟩
  rw [← hRP] at hPr hGp
  have h64 : shT r s q n2 = true → n2 = 64 := fun h => (shT_true h).2.2.2.2.2.2
  have hC2 := hc2
  have hX2' := hX2
  unfold PostSx rtC rtZ at hS2 hS4
  unfold PostGn at hGet
  unfold PostPn at hPr
  unfold PostGy at hGp
  generalize okG n4 b = OK at *
  generalize (shT r s q n2 && decide (n3 = 64)) = RT at *
  generalize shT r s q n2 = E2 at *
  generalize shT r s q 64 = E64 at *
  generalize getR b = ra at *
  generalize getH b = rb at *
  generalize getQ b = rc at *
  have i1 : ¬ (1000 : Int) < (n1 : Int) := by omega
  have i4 : ¬ (1000 : Int) < (n4 : Int) := by omega
  replace hga := Lib.hid hga
  replace hGet := Lib.hid hGet
  replace hPg := Lib.hid hPg
  replace hRg := Lib.hid hRg
  replace hSb := Lib.hid hSb
  replace hSz := Lib.hid hSz
  replace hPr := Lib.hid hPr
  replace hRr := Lib.hid hRr
  replace hGp := Lib.hid hGp
  replace hSy := Lib.hid hSy
  replace hS2 := Lib.hid hS2
  replace hS4 := Lib.hid hS4
  replace hSl := Lib.hid hSl
  replace hPub := Lib.hid hPub
  replace hCk := Lib.hid hCk
  replace hRs := Lib.hid hRs
  replace hSs := Lib.hid hSs
  replace hTs := Lib.hid hTs
  replace hTb := Lib.hid hTb
  replace hTn := Lib.hid hTn
  replace hSt := Lib.hid hSt
  replace hsh := Lib.hid hsh
  replace h64 := Lib.hid h64
  replace hC2 := Lib.hid hC2
  replace hX2' := Lib.hid hX2'
  clear hOK hRT hTr hF hSr hGr hbr hc1 hc2 hc3 hc4 hn1 hn4 hg hX1 hX2 hX3 hX4 hS hCv hn2 hn3 hQ hK hQr hKr hv hTX hRP
  go_enter Tryz.func4, Tryz.ntmps4
  go_wp2_with fail
  refine calls_at (fun W0 hW => ?_)
  have hA : Blk W0 w.heap.size 28 #[.int .i64 r, .int .i64 s, .int .i64 q, .slice p2 n2 c2, .slice p3 n3 c3] := by rw [hW]; exact Blk.new _ _ _
  have hb0 : Below w.heap.size w W0 := by rw [hW]; go_grown
  clear hW
  refine (ha.out _ hb0).mono ?_
  rintro e w1 ⟨rfl, hb⟩
  replace hA := hA.below hb
  replace hb0 := hb0.trans (hb.mono hb0.size)
  clear hb ha
  obtain ⟨gA, hgA⟩ : ∃ g, g = w.heap.size := ⟨_, rfl⟩
  rw [← hgA] at hA
  rw [← hgA]
  replace hgA := Lib.hid hgA
  obtain ⟨y0, y1, y2, y3, y4⟩ := blk5v hA
  go_wp2_with fail
  refine (hga.out w1).mono ?_
  rintro e w2 ⟨rfl, hb⟩
  replace hA := hA.below hb
  replace hb0 := hb0.trans (hb.mono hb0.size)
  clear hb hga y0 y1 y2 y3 y4
  go_wp2_with fail
  refine (hGet.out _ hb0).mono ?_
  rintro e w3 ⟨p5, n5, c5, p6, n6, c6, r5, s5, q5, code, rfl, hk1, hk2, hb⟩
  replace hA := hA.below hb
  replace hb0 := hb0.trans (hb.mono hb0.size)
  replace hk1 := Lib.hid hk1
  replace hk2 := Lib.hid hk2
  clear hb hGet i1 i4
  go_upto_if 39 with fail
  refine at_world (fun W4 hW => ?_)
  have h7 : Blk W4 w3.heap.size 28 #[.int .i64 r5, .int .i64 s5, .int .i64 q5, .slice p5 n5 c5, .slice p6 n6 c6] := by rw [hW]; exact Blk.new _ _ _
  have hb4 : Below w3.heap.size w3 W4 := by rw [hW]; go_grown
  clear hW
  have hs3 := hb0.size
  have hA4 := Lib.hid (hA.below hb4)
  have hb04 := Lib.hid (hb0.trans (hb4.mono hs3))
  obtain ⟨g7, hg7⟩ : ∃ g, g = w3.heap.size := ⟨_, rfl⟩
  rw [← hg7] at h7
  rw [← hg7]
  replace hb4 := Lib.hid hb4
  clear hg7 hA hb0 hs3
  go_cut [] from 19 (fun wx => Blk wx gA 28 #[.int .i64 r, .int .i64 s, .int .i64 q, .slice p2 n2 c2, .slice p3 n3 c3] ∧ Below w.heap.size w wx)
  case first =>
    cases OK with
    | true =>
      obtain ⟨rfl, rfl, rfl, rfl, rfl, rfl, ⟨g1, rfl, k1⟩, g2, rfl, k2⟩ := hk1.out rfl
      replace k1 := Lib.hid (k1.below hb4.out)
      replace k2 := Lib.hid (k2.below hb4.out)
      obtain ⟨y0, y1, y2, y3, y4⟩ := blk5v h7
      clear hk1 hk2 hb4
      go_wp2_with fail
      refine (hPg.out (by trivial) c5 c6 g1 g2 W4 k1.out k2.out).mono ?_
      rintro e w5 ⟨g9, c9, rfl, _, k9, hb⟩
      have hs := hb04.out.size
      replace h7 := h7.below hb
      have hA5 := Lib.hid (hA4.out.below hb)
      have hb05 := Lib.hid (hb04.out.trans (hb.mono hs))
      replace k9 := Lib.hid k9
      clear y0 y1 y2 y3 y4 hb hs hA4 hb04
      obtain ⟨y0, y1, y2, y3, y4⟩ := blk5v h7
      go_wp2_with fail
      refine (hRg.out (by trivial) _ _ _ _ w5).mono ?_
      rintro e w6 ⟨rfl, hb⟩
      have hs := hb05.out.size
      have hA6 := Lib.hid (hA5.out.below hb)
      have hb06 := Lib.hid (hb05.out.trans (hb.mono hs))
      replace k9 := Lib.hid (k9.out.below hb)
      clear y0 y1 y2 y3 y4 hb hs hA5 hb05 h7
      go_wp2_with fail
      refine (hSb.out (by trivial) g9 c9 w6 k9.out hb06.out).mono ?_
      rintro e w7 ⟨rfl, hb⟩
      have hs := hb06.out.size
      have hA7 := Lib.hid (hA6.out.below hb)
      have hb07 := Lib.hid (hb06.out.trans (hb.mono hs))
      clear hb hs hA6 hb06 k9
      go_wp2_with fail
      go_meet
      case rel => exact ⟨hA7.out, hb07.out⟩
    | false =>
      obtain ⟨rfl, rfl, rfl, rfl, rfl, rfl, rfl, rfl, rfl, rfl⟩ := hk2.out rfl
      obtain ⟨y0, y1, y2, y3, y4⟩ := blk5v h7
      clear hk1 hk2 hb4
      go_wp2_with fail
      refine (hSz.out _).mono ?_
      rintro e w5 ⟨rfl, hb⟩
      have hs := hb04.out.size
      have hA5 := Lib.hid (hA4.out.below hb)
      have hb05 := Lib.hid (hb04.out.trans (hb.mono hs))
      clear y0 y1 y2 y3 y4 hb hs hA4 hb04 h7
      go_wp2_with fail
      go_meet
      case rel => exact ⟨hA5.out, hb05.out⟩
  case rest =>
    obtain ⟨hA, hb0⟩ := hcut
    clear hk1 hk2 hb4 h7 hA4 hb04 hPg hRg hSb hSz
    obtain ⟨y0, y1, y2, y3, y4⟩ := blk5v hA
    go_wp2_with fail
    refine (hPr.out wc hb0).mono ?_
    rintro e w6 ⟨p9, n9, c9, code2, rfl, hk1, hk2, hb⟩
    replace hA := hA.below hb
    replace hb0 := hb0.trans (hb.mono hb0.size)
    replace hk1 := Lib.hid hk1
    replace hk2 := Lib.hid hk2
    clear hb y0 y1 y2 y3 y4 hPr
    go_upto_region 13 with fail
    go_cut [71] from 19 (fun v wx => v = .bool false ∧ Blk wx gA 28 #[.int .i64 r, .int .i64 s, .int .i64 q, .slice p2 n2 c2, .slice p3 n3 c3] ∧ (RT = true → RowB wx (match p9 with | some a => a.block | none => 0) 153 c9 RP) ∧ Below w.heap.size w wx)
    case first =>
      obtain ⟨y0, y1, y2, y3, y4⟩ := blk5v hA
      cases RT with
      | true =>
        obtain ⟨rfl, rfl, g9, rfl, k9⟩ := hk1.out rfl
        go_wp2_with fail
        refine (hRr.out w6).mono ?_
        rintro e w7 ⟨rfl, hb⟩
        replace hA := hA.below hb
        replace hb0 := hb0.trans (hb.mono hb0.size)
        replace k9 := k9.below hb
        clear hb y0 y1 y2 y3 y4
        go_wp2_with fail
        go_meet
        case rel => exact ⟨rfl, hA, fun _ => k9, hb0⟩
      | false =>
        obtain rfl := hk2.out rfl
        go_wp2_with fail
        refine (hRr.out w6).mono ?_
        rintro e w7 ⟨rfl, hb⟩
        replace hA := hA.below hb
        replace hb0 := hb0.trans (hb.mono hb0.size)
        clear hb y0 y1 y2 y3 y4
        go_wp2_with fail
        go_meet
        case rel => exact ⟨rfl, hA, fun h => (by cases h), hb0⟩
    case rest =>
      obtain ⟨rfl, hA, k9, hb0⟩ := hcut
      replace k9 := Lib.hid k9
      clear hRr
      go_upto_if 73 with fail
      go_cut [] from 19 (fun wx => Blk wx gA 28 #[.int .i64 r, .int .i64 s, .int .i64 q, .slice p2 n2 c2, .slice p3 n3 c3] ∧ Below w.heap.size w wx)
      case first =>
        cases RT with
        | true =>
          obtain ⟨rfl, rfl, g9, rfl, _⟩ := hk1.out rfl
          have k99 : RowB wc g9 153 c9 RP := k9.out rfl
          go_wp2_with fail
          refine (hGp.out (by trivial) g9 c9 _ k99).mono ?_
          rintro e w8 ⟨g1, d1, g2, d2, rfl, k1, k2, hb⟩
          replace hA := hA.below hb
          replace hb0 := hb0.trans (hb.mono hb0.size)
          clear hb
          go_upto_region 17 with fail
          refine at_world (fun W hW => ?_)
          have hB7 : Blk W w8.heap.size 28 #[.int .i64 r, .int .i64 s, .int .i64 q, .slice (some ⟨g1, 0, none⟩) 64 d1, .slice (some ⟨g2, 0, none⟩) 64 d2] := by rw [hW]; exact Blk.new _ _ _
          have hb : Below w8.heap.size w8 W := by rw [hW]; go_grown
          clear hW
          replace hA := hA.below hb
          replace hb0 := hb0.trans (hb.mono hb0.size)
          replace k1 := k1.below hb
          replace k2 := k2.below hb
          clear hb
          obtain ⟨y0, y1, y2, y3, y4⟩ := blk5v hA
          obtain ⟨z0, z1, z2, z3, z4⟩ := blk5v hB7
          generalize w8.heap.size = g8 at *
          go_wp2_with fail
          refine (hSy.out (by trivial) g1 d1 g2 d2 W k1 k2 hb0).mono ?_
          rintro e w9 ⟨rfl, hb⟩
          replace hA := hA.below hb
          replace hb0 := hb0.trans (hb.mono hb0.size)
          clear hb y0 y1 y2 y3 y4 z0 z1 z2 z3 z4 hB7 k1 k2
          go_wp2_with fail
          go_meet
          case rel => exact ⟨hA, hb0⟩
        | false =>
          obtain rfl := hk2.out rfl
          go_wp2_with fail
          go_meet
          case rel => exact ⟨hA, hb0⟩
      case rest =>
        obtain ⟨hA, hb0⟩ := hcut
        clear hk1 hk2 hGp hSy k9
        obtain ⟨y0, y1, y2, y3, y4⟩ := blk5v hA
        by_cases hn : n1 = 32
        · cases E2 with
          | false =>
            subst hn
            go_wp2_with fail
            refine (hS4.out (by trivial) _).mono ?_
            rintro e w8 ⟨rfl, hb⟩
            replace hA := hA.below hb
            replace hb0 := hb0.trans (hb.mono hb0.size)
            clear y0 y1 y2 y3 y4 hb
            go_upto_region 21 with fail
            refine at_world (fun W hW => ?_)
            have hb : Below w8.heap.size w8 W := by rw [hW]; go_grown
            clear hW
            replace hA := hA.below hb
            replace hb0 := hb0.trans (hb.mono hb0.size)
            clear hb
            obtain ⟨y0, y1, y2, y3, y4⟩ := blk5v hA
            generalize w8.heap.size = g8 at *
            go_wp2_with fail
            refine (hTn.out (by trivial) _ hb0).mono ?_
            rintro e w9 ⟨rfl, hb⟩
            replace hb0 := hb0.trans (hb.mono hb0.size)
            clear y0 y1 y2 y3 y4 hb hA
            go_wp2_with fail
            go_returns
            exact ⟨rfl, hb0⟩
          | true =>
            have hn2 := h64.out (by trivial)
            have hx := (hX2'.below hb0)
            rw [hn2] at hx
            obtain rfl := hsh.out (by trivial)
            subst hn2 hn
            go_wp2_with fail
            refine (hSl.out (by trivial) (by trivial) p2 c2 p3 n3 c3 _ hb0 hx hC2.out).mono ?_
            rintro e w8 ⟨g1, d1, g2, d2, rfl, k1, k2, hb⟩
            replace hA := hA.below hb
            replace hb0 := hb0.trans (hb.mono hb0.size)
            clear y0 y1 y2 y3 y4 hb hx
            go_upto_region 22 with fail
            refine at_world (fun W hW => ?_)
            have hBB : Blk W w8.heap.size 28 #[.int .i64 r, .int .i64 s, .int .i64 q, .slice (some ⟨g1, 0, none⟩) 64 d1, .slice (some ⟨g2, 0, none⟩) 64 d2] := by rw [hW]; exact Blk.new _ _ _
            have hb : Below w8.heap.size w8 W := by rw [hW]; go_grown
            clear hW
            replace hA := hA.below hb
            replace hb0 := hb0.trans (hb.mono hb0.size)
            replace k1 := k1.below hb
            replace k2 := k2.below hb
            clear hb
            obtain ⟨gB, hgB⟩ : ∃ g, g = w8.heap.size := ⟨_, rfl⟩
            rw [← hgB] at hBB
            rw [← hgB]
            clear hgB
            obtain ⟨y0, y1, y2, y3, y4⟩ := blk5v hBB
            go_wp2_with fail
            refine (hSl.out (by trivial) (by trivial) (some ⟨g1, 0, none⟩) d1 (some ⟨g2, 0, none⟩) 64 d2 _ hb0 k1.bx k1.cap).mono ?_
            rintro e w9 ⟨g3, d3, g4, d4, rfl, k3, k4, hb⟩
            replace hA := hA.below hb
            replace hBB := hBB.below hb
            replace hb0 := hb0.trans (hb.mono hb0.size)
            replace k1 := k1.below hb
            replace k2 := k2.below hb
            clear y0 y1 y2 y3 y4 hb
            go_upto_region 23 with fail
            refine at_world (fun W hW => ?_)
            have hCC : Blk W w9.heap.size 28 #[.int .i64 r, .int .i64 s, .int .i64 q, .slice (some ⟨g3, 0, none⟩) 64 d3, .slice (some ⟨g4, 0, none⟩) 64 d4] := by rw [hW]; exact Blk.new _ _ _
            have hb : Below w9.heap.size w9 W := by rw [hW]; go_grown
            clear hW
            replace hA := hA.below hb
            replace hBB := hBB.below hb
            replace hb0 := Lib.hid (hb0.trans (hb.mono hb0.size))
            replace k1 := Lib.hid (k1.below hb)
            replace k2 := Lib.hid (k2.below hb)
            replace k3 := Lib.hid (k3.below hb)
            replace k4 := Lib.hid (k4.below hb)
            clear hb
            obtain ⟨gC, hgC⟩ : ∃ g, g = w9.heap.size := ⟨_, rfl⟩
            rw [← hgC] at hCC
            rw [← hgC]
            clear hgC
            have hSS := Lib.hid (fun w' (hb : Below W.heap.size W w') => (⟨blk5v (hA.below hb), blk5v (hBB.below hb), blk5v (hCC.below hb)⟩ : (w'.cell? ⟨gA, 0, none⟩ = some (.int .i64 r) ∧ w'.cell? ⟨gA, 1, none⟩ = some (.int .i64 s) ∧ w'.cell? ⟨gA, 2, none⟩ = some (.int .i64 q) ∧ w'.cell? ⟨gA, 3, none⟩ = some (.slice p2 64 c2) ∧ w'.cell? ⟨gA, 4, none⟩ = some (.slice p3 n3 c3)) ∧ (w'.cell? ⟨gB, 0, none⟩ = some (.int .i64 r) ∧ w'.cell? ⟨gB, 1, none⟩ = some (.int .i64 s) ∧ w'.cell? ⟨gB, 2, none⟩ = some (.int .i64 q) ∧ w'.cell? ⟨gB, 3, none⟩ = some (.slice (some ⟨g1, 0, none⟩) 64 d1) ∧ w'.cell? ⟨gB, 4, none⟩ = some (.slice (some ⟨g2, 0, none⟩) 64 d2)) ∧ (w'.cell? ⟨gC, 0, none⟩ = some (.int .i64 r) ∧ w'.cell? ⟨gC, 1, none⟩ = some (.int .i64 s) ∧ w'.cell? ⟨gC, 2, none⟩ = some (.int .i64 q) ∧ w'.cell? ⟨gC, 3, none⟩ = some (.slice (some ⟨g3, 0, none⟩) 64 d3) ∧ w'.cell? ⟨gC, 4, none⟩ = some (.slice (some ⟨g4, 0, none⟩) 64 d4))))
            have hs := Lib.hid hb0.out.size
            have h0 := Below.refl W.heap.size W
            clear hA hBB hCC hSl hS2 hS4 hTn hsh h64
            go_region_held3 (fun w' => (w'.cell? ⟨gA, 0, none⟩ = some (.int .i64 r) ∧ w'.cell? ⟨gA, 1, none⟩ = some (.int .i64 s) ∧ w'.cell? ⟨gA, 2, none⟩ = some (.int .i64 q) ∧ w'.cell? ⟨gA, 3, none⟩ = some (.slice p2 64 c2) ∧ w'.cell? ⟨gA, 4, none⟩ = some (.slice p3 n3 c3)) ∧ (w'.cell? ⟨gB, 0, none⟩ = some (.int .i64 r) ∧ w'.cell? ⟨gB, 1, none⟩ = some (.int .i64 s) ∧ w'.cell? ⟨gB, 2, none⟩ = some (.int .i64 q) ∧ w'.cell? ⟨gB, 3, none⟩ = some (.slice (some ⟨g1, 0, none⟩) 64 d1) ∧ w'.cell? ⟨gB, 4, none⟩ = some (.slice (some ⟨g2, 0, none⟩) 64 d2)) ∧ (w'.cell? ⟨gC, 0, none⟩ = some (.int .i64 r) ∧ w'.cell? ⟨gC, 1, none⟩ = some (.int .i64 s) ∧ w'.cell? ⟨gC, 2, none⟩ = some (.int .i64 q) ∧ w'.cell? ⟨gC, 3, none⟩ = some (.slice (some ⟨g3, 0, none⟩) 64 d3) ∧ w'.cell? ⟨gC, 4, none⟩ = some (.slice (some ⟨g4, 0, none⟩) 64 d4))) (first | exact hSS.out _ nw26 | exact hSS.out _ nw26.drew | exact hSS.out _ nw25 | exact hSS.out _ nw25.drew | exact hSS.out _ nw24 | exact hSS.out _ nw24.drew | exact hSS.out _ nw23 | exact hSS.out _ nw23.drew | exact hSS.out _ nw22 | exact hSS.out _ nw22.drew | exact hSS.out _ nw21 | exact hSS.out _ nw21.drew | exact hSS.out _ nw20 | exact hSS.out _ nw20.drew | exact hSS.out _ h0 | exact hSS.out _ h0.drew) (first | (go_at_call 27; refine calls_at (fun V1 h1 => ?_); have m1 : Below W.heap.size W V1 := (by rw [h1]; go_grown); clear h1; have m2 := m1; (with_reducible refine (hRs.out (by trivial) _ d1 _ d2 V1).mono ?_); rintro e w20 ⟨rfl, hbb⟩; have nw20 := m2.trans (hbb.mono m2.size); clear hbb m1 m2) | (go_at_call 29; refine calls_at (fun V1 h1 => ?_); have m1 : Below w20.heap.size w20 V1 := (by rw [h1]; go_grown); clear h1; have m2 := nw20.trans (m1.mono nw20.size); (with_reducible refine (hSs.out g1 d1 g2 d2 g3 d3 g4 d4 V1 (k1.out.below m2) (k2.out.below m2) (k3.out.below m2) (k4.out.below m2)).mono ?_); rintro e w21 ⟨rfl, hbb⟩; have nw21 := m2.trans (hbb.mono m2.size); clear hbb m1 m2) | (go_at_call 18; refine calls_at (fun V1 h1 => ?_); have m1 : Below w21.heap.size w21 V1 := (by rw [h1]; go_grown); clear h1; have m2 := nw21.trans (m1.mono nw21.size); (with_reducible refine (hPub.out (by trivial) V1 (hb0.out.trans (m2.mono hs.out))).mono ?_); rintro e w22 ⟨gk, ck, rfl, _, kk, hbb⟩; have nw22 := m2.trans (hbb.mono m2.size); clear hbb m1 m2) | (go_at_call 17; refine calls_at (fun V1 h1 => ?_); have m1 : Below w22.heap.size w22 V1 := (by rw [h1]; go_grown); clear h1; have m2 := nw22.trans (m1.mono nw22.size); (with_reducible refine (hCk.out (by trivial) gk ck g1 d1 g2 d2 V1 (kk.below m1) (k1.out.below m2) (k2.out.below m2) (hb0.out.trans (m2.mono hs.out))).mono ?_); rintro e w23 ⟨rfl, hbb⟩; have nw23 := m2.trans (hbb.mono m2.size); clear hbb m1 m2) | (go_at_call 31; refine calls_at (fun V1 h1 => ?_); have m1 : Below w23.heap.size w23 V1 := (by rw [h1]; go_grown); clear h1; have m2 := nw23.trans (m1.mono nw23.size); (with_reducible refine (hTs.out (by trivial) g1 d1 _ d2 V1 (k1.out.below m2)).mono ?_); rintro e w24 ⟨gt, ct, rfl, _, kt, hbb⟩; have nw24 := m2.trans (hbb.mono m2.size); have hTs := True.intro; clear hbb m1 m2) | (go_at_call 31; refine calls_at (fun V1 h1 => ?_); have m1 : Below w24.heap.size w24 V1 := (by rw [h1]; go_grown); clear h1; have m2 := nw24.trans (m1.mono nw24.size); (with_reducible refine (hTb.out (by trivial) V1 (hb0.out.trans (m2.mono hs.out))).mono ?_); rintro e w25 ⟨gu, cu, rfl, _, ku, hbb⟩; have nw25 := m2.trans (hbb.mono m2.size); have kt2 := (kt.below m1).below hbb; clear hbb m1 m2) | (go_at_call 28; refine calls_at (fun V1 h1 => ?_); have m1 : Below w25.heap.size w25 V1 := (by rw [h1]; go_grown); clear h1; have m2 := nw25.trans (m1.mono nw25.size); (with_reducible refine (hSt.out gt ct gu cu V1 (kt2.below m1) (ku.below m1)).mono ?_); rintro e w26 ⟨rfl, hbb⟩; have nw26 := m2.trans (hbb.mono m2.size); clear hbb m1 m2))
            all_goals
              have hP := Lib.hid (hb0.out.trans (nw26.mono hs.out))
              clear hSS nw26 nw25 nw24 nw23 nw22 nw21 nw20 h0 hb0 hs k1 k2 k3 k4
              go_wp2_with fail
              go_returns
              exact ⟨rfl, hP.out⟩
        · have i1 : ¬ (n1 : Int) = 32 := by omega
          go_wp2_with fail
          refine (hS2.out hn _).mono ?_
          rintro e w8 ⟨rfl, hb⟩
          replace hb0 := hb0.trans (hb.mono hb0.size)
          clear y0 y1 y2 y3 y4 hb hA hn
          go_wp2_with fail
          go_returns
          have hs := hb0.size
          exact ⟨rfl, by go_grown⟩
end Go.Proofs.YtgjffaoggjlamaaGreatDoor

namespace Go.Proofs.YtgjffaoggjlamaaGreatDoor
open Go Go.RowKit
set_option maxRecDepth 20000 in
set_option maxHeartbeats 8000000 in
theorem back_big (p1 : Option Addr) (n1 c1 : Nat) (r s q : Int) (p2 : Option Addr) (n2 c2 : Nat) (p3 : Option Addr) (n3 c3 : Nat) (p4 : Option Addr) (n4 c4 : Nat) (hg : (decide (1000 < n2) || decide (1000 < n3)) = true ∨ ((decide (1000 < n2) || decide (1000 < n3)) = false ∧ (1000 : Int) < n1) ∨ ((decide (1000 < n2) || decide (1000 < n3)) = false ∧ ¬ (1000 : Int) < n1 ∧ (1000 : Int) < n4)) (w : World) (hS : ShP w) (hCv : CvP w) :
    Calls Tryz.prog 4 #[.slice p1 n1 c1, .agg #[.int .i64 r, .int .i64 s, .int .i64 q, .slice p2 n2 c2, .slice p3 n3 c3], .slice p4 n4 c4] w (PostV (.bool true) w) := by
  have hB := hS.lt
  have ha := Lib.hid (fun w1 (hb : Below w.heap.size w w1) => awake15_c w1 (hS.below hb hB) (hCv.below hb hCv.lt))
  have hga := fun w1 => great15_c r s q p2 n2 c2 p3 n3 c3 w1
  generalize (decide (1000 < n2) || decide (1000 < n3)) = e1 at *
  replace hga := Lib.hid hga
  replace hg := Lib.hid hg
  clear hS hCv
  go_enter Tryz.func4, Tryz.ntmps4
  go_wp2_with fail
  refine calls_at (fun W0 hW => ?_)
  have hA : Blk W0 w.heap.size 28 #[.int .i64 r, .int .i64 s, .int .i64 q, .slice p2 n2 c2, .slice p3 n3 c3] := by rw [hW]; exact Blk.new _ _ _
  have hb0 : Below w.heap.size w W0 := by rw [hW]; go_grown
  clear hW
  refine (ha.out _ hb0).mono ?_
  rintro e w1 ⟨rfl, hb⟩
  replace hA := hA.below hb
  replace hb0 := hb0.trans (hb.mono hb0.size)
  clear hb ha
  obtain ⟨y0, y1, y2, y3, y4⟩ := blk5v hA
  go_wp2_with fail
  refine (hga.out w1).mono ?_
  rintro e w2 ⟨rfl, hb⟩
  replace hb0 := hb0.trans (hb.mono hb0.size)
  clear hb hga y0 y1 y2 y3 y4 hA
  rcases hg.out with h1 | ⟨h1, h2⟩ | ⟨h1, h2, h3⟩
  all_goals
    subst h1
    clear hg
    go_wp2_with fail
    go_returns
    exact ⟨rfl, hb0⟩
theorem back_any (p1 : Option Addr) (n1 c1 : Nat) (F : Nat → Int) (r s q : Int) (p2 : Option Addr) (n2 c2 : Nat) (p3 : Option Addr) (n3 c3 : Nat) (S G : Nat → Int) (p4 : Option Addr) (n4 c4 : Nat) (b : Nat → Int) (hF : Sc.Byt F) (hSr : Sc.Byt S) (hGr : Sc.Byt G) (hbr : Sc.Byt b) (hc1 : n1 ≤ c1) (hc2 : n2 ≤ c2) (hc3 : n3 ≤ c3) (hc4 : n4 ≤ c4) (w : World) (hX1 : BX [] w p1 n1 F) (hX2 : BX [] w p2 n2 S) (hX3 : BX [] w p3 n3 G) (hX4 : BX [] w p4 n4 b) (hS : ShP w) (hCv : CvP w) :
    Calls Tryz.prog 4 #[.slice p1 n1 c1, .agg #[.int .i64 r, .int .i64 s, .int .i64 q, .slice p2 n2 c2, .slice p3 n3 c3], .slice p4 n4 c4] w (PostV (.bool true) w) := by
  cases h1 : (decide (1000 < n2) || decide (1000 < n3)) with
  | true => exact back_big p1 n1 c1 r s q p2 n2 c2 p3 n3 c3 p4 n4 c4 (.inl h1) w hS hCv
  | false =>
    by_cases h2 : n1 ≤ 1000
    · by_cases h3 : n4 ≤ 1000
      · exact back_small p1 n1 c1 F r s q p2 n2 c2 p3 n3 c3 S G p4 n4 c4 b hF hSr hGr hbr hc1 hc2 hc3 hc4 h2 h3 h1 w hX1 hX2 hX3 hX4 hS hCv
      · exact back_big p1 n1 c1 r s q p2 n2 c2 p3 n3 c3 p4 n4 c4 (.inr (.inr ⟨h1, by omega, by omega⟩)) w hS hCv
    · exact back_big p1 n1 c1 r s q p2 n2 c2 p3 n3 c3 p4 n4 c4 (.inr (.inl ⟨h1, by omega⟩)) w hS hCv
end Go.Proofs.YtgjffaoggjlamaaGreatDoor
namespace Go.Proofs.YtgjffaoggjlamaaGreatDoor
open Go.ChangeShapes Go.WideShapes Go.ChangeAt Go.WideMaps Go.WideElems Go.RowKit
set_option maxRecDepth 100000 in
theorem rootBack_lifted (os : Os) (started : os.Started) (H : Type) (enc : TypeId × Value → H) :
    ReturnsInHanded {} Tryz.checked os 4 .any (fun w args => (Rows.rootBackSpec.pre enc Tryz.prog Tryz.f4 [] false w args ∧ laidMetH Tryz.prog laidS w) ∧ sizedMet enc Tryz.prog Tryz.f4 (OpenSpec.ofChange Rows.rootBackSpec) false w args)
      (Rows.rootBackSpec.post enc Tryz.prog Tryz.f4 false true false false) := by
  refine returnsInHanded_of_change_and (C := Tryz.checked) (X := fun w _ => laidMetH Tryz.prog laidS w) (fun _ _ _ hh h => h.of_heap hh) own_ started (by kernel_rfl) Tryz.func4
    (ChangeSpec.witness_shaped (enc := enc) (C := Tryz.checked) (os := os) (X := fun w _ => laidMetH Tryz.prog laidS w) false (World.doorLaid Tryz.prog 400 os) #[.slice none 0 0, .agg #[.int .i64 0, .int .i64 0, .int .i64 0, .slice none 0 0, .slice none 0 0], .slice none 0 0] 8 rfl (World.shaped_of_RefB (by kernel_rfl) (by kernel_rfl)) (by kernel_rfl) (by kernel_rfl) (by kernel_rfl) (door_met os _)) ?_
  intro W base args ds gs before hval0 hW _ _ hL _
  have hval : ∀ (j : Nat) t v, Tryz.f4.params[j]? = some t → args[j]? = some v → Value.okWide Tryz.prog W .any base t v := hval0
  have hW' := hW
  obtain ⟨p, q, hA0, hV, rfl, hfz, hnd⟩ := hW
  have hA : DataW.TrodAll enc Tryz.prog W 0 (fun _ => true) true Tryz.f4.params.toList args.toList ds p := hA0
  rw [Tryz.params4] at hA hval
  obtain ⟨v0, v1, v2, d0, d1, d2, q0, q1, q2, rfl, rfl, rfl, h0, h1, h2⟩ := trodAll_three hA
  obtain ⟨rfl, rfl⟩ := trodVars_none hV
  have hv0 := hval 0 26 v0 rfl rfl
  have hv1 := hval 1 28 v1 rfl rfl
  have hv2 := hval 2 26 v2 rfl rfl
  clear hA0 hval0
  simp only [List.append_nil] at hW'
  obtain ⟨hCv, hS⟩ := of_laid hL
  have hlt : ∀ x ∈ q0 ++ q1 ++ q2, x.block < W.heap.size := fun x hx => hW'.lt x hx
  obtain ⟨a0, n0, c0, b0, rfl, hr0, hB0, hc0⟩ := open_bs hv0 h0
  obtain ⟨r1, s1, k1, pa1, na1, ca1, pb1, nb1, cb1, S1, G1, rfl, hS1, hA1, hca1, hG1, hB1, hcb1⟩ := open_root hv1 h1
  obtain ⟨a2, n2, c2, b2, rfl, hr2, hB2, hc2⟩ := open_bs hv2 h2
  clear hv0 hv1 hv2
  refine (back_any a0 n0 c0 b0 r1 s1 k1 pa1 na1 ca1 pb1 nb1 cb1 S1 G1 a2 n2 c2 b2 hr0 hS1 hG1 hr2 hc0 hca1 hcb1 hc2 W hB0.bx hA1.bx hB1.bx hB2.bx hS hCv).mono fun e W' ⟨he, hb⟩ => ?_
  subst he
  exact ⟨_, rfl, post_of_below (pa := q0 ++ q1 ++ q2) (pv := []) hW' (fun _ _ _ => trodAll_mk1 (shut_bool bool_under true))
    (fun sp hsp => ⟨q0, (q1 ++ q2), WideElems.Trod_stays (by kernel_rfl) (by kernel_rfl) (of_decide_eq_true (by kernel_rfl)) h0 (fun x hx => hb.same (hlt x (by simp [hx]))) (fun x hx => hsp x (by simp [hx])), ⟨q1, q2, WideElems.Trod_stays (by kernel_rfl) (by kernel_rfl) (of_decide_eq_true (by kernel_rfl)) h1 (fun x hx => hb.same (hlt x (by simp [hx]))) (fun x hx => hsp x (by simp [hx])), ⟨q2, [], WideElems.Trod_stays (by kernel_rfl) (by kernel_rfl) (of_decide_eq_true (by kernel_rfl)) h2 (fun x hx => hb.same (hlt x (by simp [hx]))) (fun x hx => hsp x (by simp [hx])), rfl, by simp⟩, by simp⟩, by simp⟩)
    (fun _ _ => rfl) (by simp) hb
    (ok_one (by kernel_rfl) rfl (okWide_bool_mk bool_under true))⟩
theorem rootBack_row : Rows.RootBackSaid :=
  OpenClaim.holds_of_wide 4 Tryz.f4 rfl rfl rfl rfl rfl rfl rfl ⟨rfl, rfl, rfl, rfl, rfl⟩ rfl rfl rfl rfl rfl (by kernel_rfl) Tryz.func4 (by kernel_rfl)
    (of_decide_eq_true (by kernel_rfl)) (by unfold Func.isWrapper; first | (rw [if_pos (by decide +kernel)]; kernel_rfl) | (rw [if_neg (by decide +kernel)]; exact ⟨rfl, rfl⟩))
    (fun os started H enc _ => rootBack_lifted os started H enc)
theorem rootBack_holds : Rows.RootBackCardSaid :=
  Claim7.holds_tied_plain_at .later [] [.data, .data, .data, .data] true (true, "72087f2b6518ba3ca8f5a6e732784f24e9910f740a98764daa57a58567a5505c") true
    rootBack_row (fun _ h => by cases h) (by kernel_rfl) (fun _ h => by cases h) rootBack_row_tie rfl ⟨rfl, rfl⟩ (by kernel_rfl) rfl
    (fun f fn hf hfn => by
      obtain rfl : f = 4 := Option.some.inj ((show Tryz.prog.funcNamed "buttress/buttresslaw15.RootBack" = some 4 by kernel_rfl).symm.trans hf) |>.symm
      obtain rfl : fn = Tryz.f4 := (Option.some.inj (Tryz.func4.symm.trans hfn)).symm
      exact ⟨by kernel_rfl, fun j t ht => by
        rw [Tryz.params4] at ht
        have hm : t ∈ [26, 28, 26] := by simpa using Array.mem_of_getElem? ht
        have hall : ([26, 28, 26].all fun u => !Tryz.prog.wantsStandIn u) = true := by kernel_rfl
        exact (show Tryz.prog.wantsStandIn t = false by simpa using List.all_eq_true.1 hall t hm)⟩)
    (by kernel_rfl)
end Go.Proofs.YtgjffaoggjlamaaGreatDoor
