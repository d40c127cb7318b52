/- Plain: the bytes of a point of the curve are got as that point; so two points have the same bytes just if they are one. The walk of the law EdwardsGroup. EdwardsGroup at any lengths. EdwardsGroup answers true at every input, and its arguments read as they did; its two package variables are tied to the program's text. -/
import Derived.Test.YtpaldgajkhmhbaaDoorZb
import Derived.Test.YtpaldgajkhmhbaaDoorEh
import Derived.Test.YtpaldgajkhmhbaaDoorZd
import Derived.Test.YtpaldgajkhmhbaaDoorZe
namespace Fe
/-- a point's bytes -/
def enc (x y : Fin P) (j : Nat) : Int := Go.Proofs.YtpaldgajkhmhbaaDoor.ptB y.val x.val j
theorem rb_r (n j : Nat) : 0 ≤ Dg.rb n j ∧ Dg.rb n j < 256 := by
  unfold Dg.rb; omega
theorem enc_r (x y : Fin P) (j : Nat) : 0 ≤ enc x y j ∧ enc x y j < 256 := by
  unfold enc Go.Proofs.YtpaldgajkhmhbaaDoor.ptB
  have h1 := rb_r y.val j
  have h2 := Go.Proofs.YtpaldgajkhmhbaaDoor.rb31 y.isLt
  split
  · split <;> omega
  · exact h1
theorem clr_enc (x y : Fin P) : clr (enc x y) = Dg.rb y.val := by
  funext j
  have h2 := Go.Proofs.YtpaldgajkhmhbaaDoor.rb31 y.isLt
  unfold clr enc Go.Proofs.YtpaldgajkhmhbaaDoor.ptB
  by_cases hj : j = 31
  · subst hj
    rw [if_pos rfl, if_pos rfl]
    split <;> omega
  · rw [if_neg hj, if_neg hj]
theorem sy_rb (n : Nat) : ∀ k, sy (Dg.rb n) k = ((n % 256 ^ k : Nat) : Int)
  | 0 => by unfold sy; rw [Nat.pow_zero, Nat.mod_one]; rfl
  | k + 1 => by
    unfold sy
    rw [sy_rb n k, Nat.mod_pow_succ]
    unfold Dg.rb
    simp only [Int.natCast_add, Int.natCast_mul, Int.natCast_pow]
    rw [Int.mul_comm]
    rfl
theorem lt_256 {n : Nat} (h : n < P) : n < 256 ^ 32 := Nat.lt_trans h (by unfold P; decide)
theorem nB_enc (x y : Fin P) : nB (enc x y) = y.val := by
  unfold nB
  rw [clr_enc]
  have h := val_get (b := Dg.rb y.val) (rb_r y.val)
  have h31 := Go.Proofs.YtpaldgajkhmhbaaDoor.rb31 y.isLt
  have h2 : sy (Dg.rb y.val) 31 + Dg.rb y.val 31 % 128 * 256 ^ 31 = (y.val : Int) := by
    rw [Int.emod_eq_of_lt h31.1 h31.2]
    have h3 := sy_rb y.val 32
    rw [Nat.mod_eq_of_lt (lt_256 y.isLt)] at h3
    unfold sy at h3
    exact h3
  rw [h2] at h
  have h3 := nv_int (getE (Dg.rb y.val) 255)
  rw [h] at h3
  have hp : (P : Int) = p := by decide
  have h4 : ((y.val : Int) % p) = (y.val : Int) := Int.emod_eq_of_lt (by omega) (by rw [← hp]; exact_mod_cast y.isLt)
  rw [h4] at h3
  exact Int.ofNat.inj h3
theorem getOk_enc (x y : Fin P) : Go.Proofs.YtpaldgajkhmhbaaDoor.getOk (clr (enc x y)) = true := by
  rw [clr_enc, ok_same (rb_r y.val)]
  unfold Go.Proofs.YtpaldgajkhmhbaaDoor.lessB
  refine decide_eq_true ?_
  rw [Go.Proofs.YtpaldgajkhmhbaaDoor.pd_sm, sm_sy, show 2 * 16 = 32 from rfl, sy_rb, Nat.mod_eq_of_lt (lt_256 y.isLt)]
  have hp : (P : Int) = p := by decide
  rw [← hp]
  exact_mod_cast y.isLt
theorem odB_enc (x y : Fin P) : odB (enc x y) = decide (x.val % 2 = 1) := by
  unfold odB enc Go.Proofs.YtpaldgajkhmhbaaDoor.ptB
  have h31 := Go.Proofs.YtpaldgajkhmhbaaDoor.rb31 y.isLt
  rw [if_pos rfl]
  refine decide_eq_decide.2 ?_
  split <;> omega
theorem v_nz (y : Fin P) : zf (vN y.val) ≠ 0 := fun h => by
  rw [zf_v, zf_val, dF_def] at h
  obtain ⟨i, hi⟩ := f_i
  by_cases hy : y = 0
  · subst hy
    rw [f_m0, f_m0, f_0a] at h
    exact f_one h
  · have hf := fi_mul hy
    refine d_ns (i * fi y) ?_
    generalize fi y = u at *
    generalize dF = d at *
    grind
theorem cv_uv {x y : Fin P} (h : Cv x y) : x * x * zf (vN y.val) = zf (uN y.val) := by
  rw [zf_v, zf_u, zf_val, dF_def]
  unfold Cv at h
  generalize dF = d at *
  grind
theorem f_sq {a b : Fin P} (h : a * a = b * b) : a = b ∨ a = -b := by
  have : (a - b) * (a + b) = 0 := by grind
  rcases f_mul this with h1 | h1
  · left; grind
  · right; grind
theorem bN_enc {x y : Fin P} (h : Cv x y) : bN (uN y.val) (vN y.val) = true := by
  have hu := cv_uv h
  have hv0 := v_nz y
  have hV0 : vN y.val ≠ 0 := fun e => hv0 (by rw [e]; rfl)
  by_cases hx : x = 0
  · have hU : uN y.val = 0 := by
      refine (zf_zero (uN_lt _)).1 ?_
      rw [← hu, hx]
      generalize zf (vN y.val) = v
      grind
    rw [hU]
    exact rN_0.1
  · have hU0 : uN y.val ≠ 0 := fun e => by
      rw [e, zf_0] at hu
      exact f_ne (f_ne hx hx) hv0 hu
    rw [bN_t (uN_lt _) (vN_lt _) hU0 hV0]
    have hw : zf (wN (uN y.val) (vN y.val)) = x * x := by
      have h1 := congrArg zf (w_mul (uN_lt y.val) (vN_lt y.val) hV0)
      rw [zf_mod, zf_mul, ← hu] at h1
      exact f_can hv0 h1
    have hw2 : wN (uN y.val) (vN y.val) = x.val * x.val % P := by
      have h1 := congrArg Fin.val hw
      have h2 : (zf (wN (uN y.val) (vN y.val))).val = wN (uN y.val) (vN y.val) := Nat.mod_eq_of_lt (wN_lt _ _)
      rw [← h2, h1]
      rfl
    have ht := tN_sq (wN (uN y.val) (vN y.val))
    have hx1 : x.val ^ (P - 1) % P = 1 := Nt.fermat prP (not_dvd x.isLt (f_nz hx))
    rw [hw2, ← Nat.pow_mod, Nat.mul_pow, ← Nat.pow_add, hf_two, hx1, ← hw2] at ht
    rcases sq_one (tN_lt _) ht with h1 | h1
    · rw [decide_eq_true h1]; rfl
    · rw [decide_eq_true h1, Bool.or_true]
theorem gX_enc {x y : Fin P} (h : Cv x y) : gB y.val (decide (x.val % 2 = 1)) = true ∧ gX y.val (decide (x.val % 2 = 1)) = x.val := by
  have hb := bN_enc h
  have hs := congrArg zf (rN_sq (uN_lt y.val) hb)
  have hl := rN_lt (uN y.val) (vN y.val)
  have he := rN_even (U := uN y.val) (V := vN y.val)
  have hP := P_odd
  rw [zf_mod, zf_mul, zf_mod, zf_mul, ← cv_uv h] at hs
  have hr := f_sq (f_can (v_nz y) hs)
  have hx := x.isLt
  have hc : rN (uN y.val) (vN y.val) = x.val ∨ rN (uN y.val) (vN y.val) = (P - x.val) % P := by
    rcases hr with h1 | h1
    · left
      have := congrArg Fin.val h1
      rwa [show (zf (rN (uN y.val) (vN y.val))).val = rN (uN y.val) (vN y.val) from Nat.mod_eq_of_lt hl] at this
    · right
      have h2 : zf (rN (uN y.val) (vN y.val)) = zf ((P - x.val) % P) := by rw [h1, zf_mod, zf_sub _ (Nat.le_of_lt hx), zf_val]
      exact (zf_inj hl (mod_lt' _)).1 h2
  unfold gB gX
  rw [hb]
  generalize rN (uN y.val) (vN y.val) = r at *
  have hP0 := P_pos
  by_cases h0 : x.val = 0
  · have hr0 : r = 0 := by
      rcases hc with h1 | h1
      · omega
      · rw [h1, h0, Nat.sub_zero, Nat.mod_self]
    have hd : decide (x.val % 2 = 1) = false := decide_eq_false (by omega)
    rw [hd, hr0]
    exact ⟨rfl, h0.symm⟩
  · have hm : (P - x.val) % P = P - x.val := Nat.mod_eq_of_lt (by omega)
    rw [hm] at hc
    by_cases hodd : x.val % 2 = 1
    · have hr1 : r = P - x.val := by omega
      have hrn : r ≠ 0 := by omega
      rw [decide_eq_true hodd, decide_eq_false hrn]
      refine ⟨rfl, ?_⟩
      rw [if_pos rfl, hr1]
      have : P - (P - x.val) = x.val := by omega
      rw [this, Nat.mod_eq_of_lt hx]
    · have hr1 : r = x.val := by omega
      rw [decide_eq_false hodd]
      exact ⟨rfl, by rw [if_neg (by decide)]; exact hr1⟩
theorem okB_enc {x y : Fin P} (h : Cv x y) : okB (enc x y) = true := by
  unfold okB
  rw [getOk_enc, nB_enc, odB_enc, (gX_enc h).1]
  rfl
theorem dec_enc {x y : Fin P} (h : Cv x y) : zf (gX (nB (enc x y)) (odB (enc x y))) = x ∧ zf (nB (enc x y)) = y := by
  rw [nB_enc, odB_enc, (gX_enc h).2, zf_val, zf_val]
  exact ⟨rfl, rfl⟩
theorem enc_inj {x y x2 y2 : Fin P} (h : Cv x y) (h2 : Cv x2 y2) (he : ∀ j, j < 32 → enc x y j = enc x2 y2 j) : x = x2 ∧ y = y2 := by
  have e : enc x y = enc x2 y2 := by
    funext j
    rcases Nat.lt_or_ge j 32 with hj | hj
    · exact he j hj
    · have hz : ∀ x y : Fin P, enc x y j = 0 := fun x y => by
        unfold enc Go.Proofs.YtpaldgajkhmhbaaDoor.ptB
        rw [if_neg (by omega)]
        unfold Dg.rb
        rw [Nat.div_eq_of_lt (Nat.lt_of_lt_of_le (lt_256 y.isLt) (Nat.pow_le_pow_right (by decide) hj))]
        rfl
      rw [hz, hz]
  have d1 := dec_enc h
  have d2 := dec_enc h2
  rw [e] at d1
  exact ⟨d1.1.symm.trans d2.1, d1.2.symm.trans d2.2⟩
end Fe

namespace Go.Proofs.YtpaldgajkhmhbaaDoor
open Go.RowKit
theorem PtE.cv {X Y Z T : Fe.E} {x y : Fin Fe.P} (h : PtE X Y Z T x y) : Fe.Cv x y := by
  obtain ⟨a, b, c, d, _, _, _, _, hA⟩ := h
  exact hA.cv
theorem same_refl (x y : Fin Fe.P) : (decide (x = x) && decide (y = y)) = true := by rw [decide_eq_true rfl, decide_eq_true rfl]; rfl
theorem same_negG {x y : Fin Fe.P} (h : Fe.Cv x y) : (decide (Fe.ax x y (-x) y = 0) && decide (Fe.ay x y (-x) y = 1)) = true := by rw [decide_eq_true (Fe.ax_neg _ _), decide_eq_true (Fe.ay_neg h)]; rfl
theorem same_zeroG (x y : Fin Fe.P) : (decide (Fe.ax x y 0 1 = x) && decide (Fe.ay x y 0 1 = y)) = true := by rw [decide_eq_true (Fe.ax_zero _ _), decide_eq_true (Fe.ay_zero _ _)]; rfl
theorem sameEncB {x y x2 y2 : Fin Fe.P} {EB : Bool} (h1 : Fe.Cv x y) (h2 : Fe.Cv x2 y2) (hEB : (decide (x = x2) && decide (y = y2)) = EB) (ga gb : Nat) (w : World) (hA : RowB w ga 32 32 (fun j => ptB y.val x.val j)) (hB : RowB w gb 32 32 (fun j => ptB y2.val x2.val j)) :
    Calls Tryd.prog 18 #[.slice (some ⟨ga, 0, none⟩) 32 32, .slice (some ⟨gb, 0, none⟩) 32 32] w (PostV (.bool EB) w) := by
  have h := sameBytes_c ga 0 32 32 gb 0 32 32 (fun j => ptB y.val x.val j) (fun j => ptB y2.val x2.val j) (by decide) (by decide) w (fun j hj => by rw [Nat.zero_add]; exact hA.cell j hj) (fun j hj => by rw [Nat.zero_add]; exact hB.cell j hj) hA.lt hB.lt
  have e : sameB 32 32 (fun j => ptB y.val x.val j) (fun j => ptB y2.val x2.val j) = EB := by
    rw [← hEB, ← Bool.decide_and]
    unfold sameB
    refine decide_eq_decide.2 ⟨fun h => Fe.enc_inj h1 h2 (fun j hj => h.2 j hj), ?_⟩
    rintro ⟨rfl, rfl⟩
    exact ⟨rfl, fun _ _ => rfl⟩
  rw [e] at h
  exact h
def gr6L (x1 : Fin Fe.P) (y1 : Fin Fe.P) (x2 : Fin Fe.P) (y2 : Fin Fe.P) (x3 : Fin Fe.P) (y3 : Fin Fe.P) (B0 : Nat) : List (Value → World → Prop) := [
  PqP x1 y1,
  PqP x2 y2,
  SlP 2 (p2 x1 x2) (p2 y1 y2),
  PqP (Fe.ax x1 y1 x2 y2) (Fe.ay x1 y1 x2 y2),
  PqP x3 y3,
  SlP 2 (p2 (Fe.ax x1 y1 x2 y2) x3) (p2 (Fe.ay x1 y1 x2 y2) y3),
  PqP (Fe.ax (Fe.ax x1 y1 x2 y2) (Fe.ay x1 y1 x2 y2) x3 y3) (Fe.ay (Fe.ax x1 y1 x2 y2) (Fe.ay x1 y1 x2 y2) x3 y3),
  PqP x1 y1,
  PqP x2 y2,
  PqP x3 y3,
  SlP 2 (p2 x2 x3) (p2 y2 y3),
  PqP (Fe.ax x2 y2 x3 y3) (Fe.ay x2 y2 x3 y3),
  SlP 2 (p2 x1 (Fe.ax x2 y2 x3 y3)) (p2 y1 (Fe.ay x2 y2 x3 y3)),
  PqP (Fe.ax x1 y1 (Fe.ax x2 y2 x3 y3) (Fe.ay x2 y2 x3 y3)) (Fe.ay x1 y1 (Fe.ax x2 y2 x3 y3) (Fe.ay x2 y2 x3 y3)),
  NewB B0 29 #[.int .u64 0, .int .u64 0, .int .u64 0, .int .u64 0, .int .u64 0, .int .u64 0, .int .u64 0, .int .u64 0, .int .u64 0, .int .u64 0, .int .u64 0, .int .u64 0, .int .u64 0, .int .u64 0, .int .u64 0, .int .u64 0, .int .u64 0, .int .u64 0, .int .u64 0, .int .u64 0],
  NewB B0 29 #[.int .u64 0, .int .u64 0, .int .u64 0, .int .u64 0, .int .u64 0, .int .u64 0, .int .u64 0, .int .u64 0, .int .u64 0, .int .u64 0, .int .u64 0, .int .u64 0, .int .u64 0, .int .u64 0, .int .u64 0, .int .u64 0, .int .u64 0, .int .u64 0, .int .u64 0, .int .u64 0]]
theorem gr6S (x1 : Fin Fe.P) (y1 : Fin Fe.P) (x2 : Fin Fe.P) (y2 : Fin Fe.P) (x3 : Fin Fe.P) (y3 : Fin Fe.P) (B0 : Nat) : ∀ j x' q q', (gr6L x1 y1 x2 y2 x3 y3 B0).getD j (fun _ _ => True) x' q → Below q.heap.size q q' → (gr6L x1 y1 x2 y2 x3 y3 B0).getD j (fun _ _ => True) x' q' := by
  refine sta_all _ ?_
  simp only [gr6L, List.mem_cons, forall_eq_or_imp, List.not_mem_nil, false_implies, implies_true, and_true]
  exact ⟨sta_pq _ _, sta_pq _ _, sta_sl _ _ _, sta_pq _ _, sta_pq _ _, sta_sl _ _ _, sta_pq _ _, sta_pq _ _, sta_pq _ _, sta_pq _ _, sta_sl _ _ _, sta_pq _ _, sta_sl _ _ _, sta_pq _ _, sta_new _ _ _, sta_new _ _ _⟩
theorem gr6O (x1 : Fin Fe.P) (y1 : Fin Fe.P) (x2 : Fin Fe.P) (y2 : Fin Fe.P) (x3 : Fin Fe.P) (y3 : Fin Fe.P) (B0 : Nat) : ∀ j x' q, (fun j => j == 14 || j == 15) j = true → (gr6L x1 y1 x2 y2 x3 y3 B0).getD j (fun _ _ => True) x' q → ∀ g, x' = .pointer (some ⟨g, 0, none⟩) → g < q.heap.size := by
  intro j x' q hj hv g e
  have hj' : j = 14 ∨ j = 15 := by simpa only [Bool.or_eq_true, beq_iff_eq, or_assoc] using hj
  rcases hj' with rfl | rfl
  all_goals exact new_lt hv e
def gr8L (x1 : Fin Fe.P) (y1 : Fin Fe.P) (OX : Fin Fe.P) (OY : Fin Fe.P) : List (Value → World → Prop) := [
  PqP OX OY,
  PqP OX OY,
  Eq1 (.bool true),
  Eq1 (.bool false),
  Eq1 (.bool false),
  PqP OX OY,
  PqP OX OY,
  Eq1 (.bool true),
  Eq1 (.bool false),
  Eq1 (.bool false),
  Eq1 (.bool false),
  PqP x1 y1,
  PqP x1 y1,
  PqP (-x1) y1,
  SlP 2 (p2 x1 (-x1)) (p2 y1 y1),
  PqP (Fe.ax x1 y1 (-x1) y1) (Fe.ay x1 y1 (-x1) y1),
  PqP 0 1,
  Eq1 (.bool true),
  Eq1 (.bool false),
  Eq1 (.bool false),
  Eq1 (.bool false),
  PqP x1 y1,
  PqP (Fe.ax x1 y1 x1 y1) (Fe.ay x1 y1 x1 y1),
  PqP x1 y1,
  PqP x1 y1,
  SlP 2 (p2 x1 x1) (p2 y1 y1),
  PqP (Fe.ax x1 y1 x1 y1) (Fe.ay x1 y1 x1 y1),
  Eq1 (.bool true),
  Eq1 (.bool false),
  Eq1 (.bool false),
  Eq1 (.bool false),
  PqP x1 y1,
  PqP 0 1,
  SlP 2 (p2 x1 0) (p2 y1 1),
  PqP (Fe.ax x1 y1 0 1) (Fe.ay x1 y1 0 1),
  PqP x1 y1,
  Eq1 (.bool true),
  Eq1 (.bool false),
  Eq1 (.bool false)]
theorem gr8S (x1 : Fin Fe.P) (y1 : Fin Fe.P) (OX : Fin Fe.P) (OY : Fin Fe.P) : ∀ j x' q q', (gr8L x1 y1 OX OY).getD j (fun _ _ => True) x' q → Below q.heap.size q q' → (gr8L x1 y1 OX OY).getD j (fun _ _ => True) x' q' := by
  refine sta_all _ ?_
  simp only [gr8L, List.mem_cons, forall_eq_or_imp, List.not_mem_nil, false_implies, implies_true, and_true]
  exact ⟨sta_pq _ _, sta_pq _ _, sta_eq _, sta_eq _, sta_eq _, sta_pq _ _, sta_pq _ _, sta_eq _, sta_eq _, sta_eq _, sta_eq _, sta_pq _ _, sta_pq _ _, sta_pq _ _, sta_sl _ _ _, sta_pq _ _, sta_pq _ _, sta_eq _, sta_eq _, sta_eq _, sta_eq _, sta_pq _ _, sta_pq _ _, sta_pq _ _, sta_pq _ _, sta_sl _ _ _, sta_pq _ _, sta_eq _, sta_eq _, sta_eq _, sta_eq _, sta_pq _ _, sta_pq _ _, sta_sl _ _ _, sta_pq _ _, sta_pq _ _, sta_eq _, sta_eq _, sta_eq _⟩
def gr10L (x1 : Fin Fe.P) (y1 : Fin Fe.P) (x2 : Fin Fe.P) (y2 : Fin Fe.P) (OX : Fin Fe.P) (OY : Fin Fe.P) (EB : Bool) : List (Value → World → Prop) := [
  PqP OX OY,
  Eq1 (.bool true),
  Eq1 (.bool false),
  Eq1 (.bool false),
  PqP x1 y1,
  PqP (Fe.ax x1 y1 x1 y1) (Fe.ay x1 y1 x1 y1),
  Eq1 (.bool true),
  Eq1 (.bool false),
  Eq1 (.bool false),
  Eq1 (.bool false),
  PqP x2 y2,
  PqP (-x2) y2,
  Eq1 (.bool true),
  Eq1 (.bool false),
  Eq1 (.bool false),
  Eq1 (.bool false),
  PqP x1 y1,
  PqP x2 y2,
  Eq1 (.bool EB),
  PqP x1 y1,
  PtBy x1 y1,
  PqP x2 y2,
  PtBy x2 y2,
  Eq1 (.bool EB),
  Eq1 (.bool false),
  Eq1 (.bool false)]
theorem gr10S (x1 : Fin Fe.P) (y1 : Fin Fe.P) (x2 : Fin Fe.P) (y2 : Fin Fe.P) (OX : Fin Fe.P) (OY : Fin Fe.P) (EB : Bool) : ∀ j x' q q', (gr10L x1 y1 x2 y2 OX OY EB).getD j (fun _ _ => True) x' q → Below q.heap.size q q' → (gr10L x1 y1 x2 y2 OX OY EB).getD j (fun _ _ => True) x' q' := by
  refine sta_all _ ?_
  simp only [gr10L, List.mem_cons, forall_eq_or_imp, List.not_mem_nil, false_implies, implies_true, and_true]
  exact ⟨sta_pq _ _, sta_eq _, sta_eq _, sta_eq _, sta_pq _ _, sta_pq _ _, sta_eq _, sta_eq _, sta_eq _, sta_eq _, sta_pq _ _, sta_pq _ _, sta_eq _, sta_eq _, sta_eq _, sta_eq _, sta_pq _ _, sta_pq _ _, sta_eq _, sta_pq _ _, sta_by _ _, sta_pq _ _, sta_by _ _, sta_eq _, sta_eq _, sta_eq _⟩
set_option maxRecDepth 20000 in
set_option maxHeartbeats 8000000 in
theorem group4_c (q1 : Option Addr) (n1 c1 : Nat) (b1 : Nat → Int) (q2 : Option Addr) (n2 c2 : Nat) (b2 : Nat → Int) (q3 : Option Addr) (n3 c3 : Nat) (b3 : Nat → Int) (hr1 : ∀ j, 0 ≤ b1 j ∧ b1 j < 256) (hr2 : ∀ j, 0 ≤ b2 j ∧ b2 j < 256) (hr3 : ∀ j, 0 ≤ b3 j ∧ b3 j < 256) (hn1 : n1 ≤ 100) (hn2 : n2 ≤ 100) (hn3 : n3 ≤ 100) (w : World) (hB1 : BAt w q1 n1 b1) (hB2 : BAt w q2 n2 b2) (hB3 : BAt w q3 n3 b3) (hCv : CvP w) : Calls Tryd.prog 7 #[.slice q1 n1 c1, .slice q2 n2 c2, .slice q3 n3 c3] w fun e w' => e = .returned (.bool true) ∧ Below w.heap.size w w' := by
  have hi1 : (n1 : Int) ≤ 100 := by omega
  have hi2 : (n2 : Int) ≤ 100 := by omega
  have hi3 : (n3 : Int) ≤ 100 := by omega
  have hP1 := Lib.hid (fun w1 (hb : Below w.heap.size w w1) => point_c q1 n1 c1 b1 hr1 hn1 w1 (hB1.below hb) (hCv.below hb hCv.lt))
  have hP2 := Lib.hid (fun w1 (hb : Below w.heap.size w w1) => point_c q2 n2 c2 b2 hr2 hn2 w1 (hB2.below hb) (hCv.below hb hCv.lt))
  have hP3 := Lib.hid (fun w1 (hb : Below w.heap.size w w1) => point_c q3 n3 c3 b3 hr3 hn3 w1 (hB3.below hb) (hCv.below hb hCv.lt))
  replace hCv := Lib.hid hCv
  clear hB1 hB2 hB3 hr1 hr2 hr3 hn1 hn2 hn3
  go_enter Tryd.func7, Tryd.ntmps7
  go_wp2_with fail
  refine (awake4_c w hCv.out).mono ?_
  rintro e w1 ⟨rfl, hb0⟩
  go_wp2_with fail
  refine (hP1.out w1 hb0).mono ?_
  rintro e w2 ⟨X1, Y1, Z1, T1, rfl, hE1, hb⟩
  replace hb0 := hb0.trans (hb.mono hb0.size)
  replace hE1 := Lib.hid hE1
  clear hb hP1
  go_wp2_with fail
  refine (hP2.out w2 hb0).mono ?_
  rintro e w3 ⟨X2, Y2, Z2, T2, rfl, hE2, hb⟩
  replace hb0 := hb0.trans (hb.mono hb0.size)
  replace hE2 := Lib.hid hE2
  clear hb hP2
  go_wp2_with fail
  refine (hP3.out w3 hb0).mono ?_
  rintro e w4 ⟨X3, Y3, Z3, T3, rfl, hE3, hb⟩
  replace hb0 := hb0.trans (hb.mono hb0.size)
  replace hE3 := Lib.hid hE3
  clear hb hP3
  go_wp2_with (first | (refine stPt rfl rfl rfl rfl k9 rfl rfl (by kernel_rfl) ?_; intro w7 m9 hgr hsz; replace k7 := k7.grown hgr (fun h => by injection h with h; omega); replace k8 := k8.grown hgr (fun h => by injection h with h; omega); replace hb0 := hb0.grown hgr hb0.size (fun k hk => by injection hk with hk; have := hs4.out; omega); clear k9 hgr hsz) | (refine stPt rfl rfl rfl rfl k8 rfl rfl (by kernel_rfl) ?_; intro w6 m8 hgr hsz; clear k8; have k8 := m8; clear m8; replace k7 := k7.grown hgr (fun h => by injection h with h; omega); replace k9 := k9.grown hgr (fun h => by injection h with h; omega); replace hb0 := hb0.grown hgr hb0.size (fun k hk => by injection hk with hk; have := hs4.out; omega); clear hgr hsz) | (refine stPt rfl rfl rfl rfl (((Blk.new _ _ _).alloc _).alloc _) rfl rfl (by kernel_rfl) ?_; intro w5 k7 hgr hsz; have k8 := Blk.grown ((blk_at (g := w4.heap.size + 1) (by simp) (Blk.new _ _ _)).alloc _) hgr (fun h => by injection h with h; omega); have k9 := Blk.grown (blk_at (g := w4.heap.size + 1 + 1) (by simp) (Blk.new _ _ _)) hgr (fun h => by injection h with h; omega); have hs4 := Lib.hid hb0.size; replace hb0 := Below.grown (((hb0.alloc hb0.size _).alloc (by rw [World.size_alloc]; have := hb0.size; omega) _).alloc (by simp only [World.size_alloc]; have := hb0.size; omega) _) hgr (by simp only [World.size_alloc]; have := hb0.size; omega) (fun k hk => by injection hk with hk; have := hb0.size; omega); clear hgr hsz))
  have hs4' := hs4.out
  have n78 : w4.heap.size ≠ w4.heap.size + 1 := by omega
  obtain ⟨G9, hG9⟩ : ∃ G, G = w4.heap.size + 1 + 1 := ⟨_, rfl⟩
  rw [← hG9] at m9 ⊢
  obtain ⟨G8, hG8⟩ : ∃ G, G = w4.heap.size + 1 := ⟨_, rfl⟩
  rw [← hG8] at k8 ⊢
  obtain ⟨G7, hG7⟩ : ∃ G, G = w4.heap.size := ⟨_, rfl⟩
  rw [← hG7] at k7 ⊢
  clear hG7 hG8 hG9 hs4 hs4' n78
  have hc1 := Lib.hid hE1.out.cv
  have hc2 := Lib.hid hE2.out.cv
  have hc3 := Lib.hid hE3.out.cv
  obtain ⟨x1, hx1⟩ : ∃ v, ptX n1 b1 = v := ⟨_, rfl⟩
  obtain ⟨y1, hy1⟩ : ∃ v, ptY n1 b1 = v := ⟨_, rfl⟩
  obtain ⟨x2, hx2⟩ : ∃ v, ptX n2 b2 = v := ⟨_, rfl⟩
  obtain ⟨y2, hy2⟩ : ∃ v, ptY n2 b2 = v := ⟨_, rfl⟩
  obtain ⟨x3, hx3⟩ : ∃ v, ptX n3 b3 = v := ⟨_, rfl⟩
  obtain ⟨y3, hy3⟩ : ∃ v, ptY n3 b3 = v := ⟨_, rfl⟩
  rw [hx1, hy1] at hE1 hc1
  rw [hx2, hy2] at hE2 hc2
  rw [hx3, hy3] at hE3 hc3
  clear hx1 hy1 hx2 hy2 hx3 hy3
  have hC7 := hCv.out.below hb0 hCv.out.lt
  refine wp_region_grow2 16 (fun k => (Nat.ble 10 k && Nat.ble k 11) || (Nat.ble 36 k && Nat.ble k 49)) _ [] (fun j x' q => (gr6L x1 y1 x2 y2 x3 y3 w7.heap.size).getD j (fun _ _ => True) x' q) (fun j => j == 14 || j == 15) (fun f => #[.slice q1 n1 c1, .slice q2 n2 c2, .slice q3 n3 c3, undef, undef, undef, .bool false, .pointer (some ⟨G7, 0, none⟩), .pointer (some ⟨G8, 0, none⟩), .pointer (some ⟨G9, 0, none⟩), f 10, f 11, undef, undef, undef, .bool true, .bool false, .slice q1 n1 c1, .int .i64 (n1 : Int), .bool (decide (100 < (n1 : Int))), .bool (decide (100 < (n1 : Int))), .slice q2 n2 c2, .int .i64 (n2 : Int), .bool (decide (100 < (n2 : Int))), .bool (decide (100 < (n1 : Int)) || decide (100 < (n2 : Int))), .bool (decide (100 < (n1 : Int)) || decide (100 < (n2 : Int))), .slice q3 n3 c3, .int .i64 (n3 : Int), .bool (decide (100 < (n3 : Int))), .bool (decide (100 < (n1 : Int)) || decide (100 < (n2 : Int)) || decide (100 < (n3 : Int))), .slice q1 n1 c1, .agg (pcs X1 Y1 Z1 T1), .slice q2 n2 c2, .agg (pcs X2 Y2 Z2 T2), .slice q3 n3 c3, .agg (pcs X3 Y3 Z3 T3), f 36, f 37, f 38, f 39, f 40, f 41, f 42, f 43, f 44, f 45, f 46, f 47, f 48, f 49, undef, undef, undef, undef, undef, undef, undef, undef, undef, undef, undef, undef, undef, undef, undef, undef, undef, undef, undef, undef, undef, undef, undef, undef, undef, undef, undef, undef, undef, undef, undef, undef, undef, undef, undef, undef, undef, undef, undef, undef, undef, undef, undef, undef, undef, undef, undef, undef, undef, undef, undef, undef, undef, undef, undef, undef, undef, undef, undef, undef, undef, undef, undef, undef, undef, undef, undef, undef, undef, undef, undef, undef, undef, undef, undef, undef, undef, undef, undef, undef, undef, undef]) (fun f => rfl) (by kernel_rfl) (by kernel_rfl) (by kernel_rfl) (by kernel_rfl) (by kernel_rfl) (gr6S _ _ _ _ _ _ _) (gr6O _ _ _ _ _ _ _) ?_ ?_
  · refine steps2_cons ?_ ?_
    · as_aux_lemma =>
      intro f w1 hb hd Q hK
      clear hd
      have hK := Lib.hid hK
      refine ldPtG (by kernel_rfl) rfl rfl (k7.below hb) ?_
      refine wpList_nil ?_
      exact hK.out _ _ ⟨_, _, _, _, rfl, hE1.out⟩ (Below.refl _ _) (fun h => by cases h)
    refine steps2_cons ?_ ?_
    · as_aux_lemma =>
      intro f w1 hb hd Q hK
      clear hd
      have hK := Lib.hid hK
      refine ldPtG (by kernel_rfl) rfl rfl (k8.below hb) ?_
      refine wpList_nil ?_
      exact hK.out _ _ ⟨_, _, _, _, rfl, hE2.out⟩ (Below.refl _ _) (fun h => by cases h)
    refine steps2_cons ?_ ?_
    · as_aux_lemma =>
      intro f w1 hb hd Q hK
      obtain ⟨X36, Y36, Z36, T36, e36, h36⟩ := (hd.1 rfl : PqP x1 y1 (f 36) w1)
      obtain ⟨X37, Y37, Z37, T37, e37, h37⟩ := (hd.2.1 rfl : PqP x2 y2 (f 37) w1)
      clear hd
      simp only [e36, e37] at hK
      have hK := Lib.hid hK
      refine bs2G (by simp only [e36, e37]; kernel_rfl) rfl e36 e37 ?_
      refine wpList_nil ?_
      simp only [e36, e37]
      exact hK.out _ _ (slP2 _ h36 h37) ((Below.refl _ _).alloc (Nat.le_refl _) _) (fun h => by cases h)
    refine steps2_cons ?_ ?_
    · as_aux_lemma =>
      intro f w1 hb hd Q hK
      obtain ⟨g38, e38, lt38, h38⟩ := (hd.1 rfl : SlP 2 (p2 x1 x2) (p2 y1 y2) (f 38) w1)
      clear hd
      simp only [e38] at hK
      have hK := Lib.hid hK
      go_wp2_with fail
      refine (addq2_c g38 _ _ _ _ _ lt38 h38 (hC7.below hb hC7.lt)).mono ?_
      rintro e w2 ⟨X, Y, Z, T, rfl, hx, hb2⟩
      go_wp2
      exact hK.out _ _ ⟨X, Y, Z, T, rfl, hx⟩ hb2 (fun h => by cases h)
    refine steps2_cons ?_ ?_
    · as_aux_lemma =>
      intro f w1 hb hd Q hK
      clear hd
      have hK := Lib.hid hK
      refine ldPtG (by kernel_rfl) rfl rfl (m9.below hb) ?_
      refine wpList_nil ?_
      exact hK.out _ _ ⟨_, _, _, _, rfl, hE3.out⟩ (Below.refl _ _) (fun h => by cases h)
    refine steps2_cons ?_ ?_
    · as_aux_lemma =>
      intro f w1 hb hd Q hK
      obtain ⟨X39, Y39, Z39, T39, e39, h39⟩ := (hd.1 rfl : PqP (Fe.ax x1 y1 x2 y2) (Fe.ay x1 y1 x2 y2) (f 39) w1)
      obtain ⟨X40, Y40, Z40, T40, e40, h40⟩ := (hd.2.1 rfl : PqP x3 y3 (f 40) w1)
      clear hd
      simp only [e39, e40] at hK
      have hK := Lib.hid hK
      refine bs2G (by simp only [e39, e40]; kernel_rfl) rfl e39 e40 ?_
      refine wpList_nil ?_
      simp only [e39, e40]
      exact hK.out _ _ (slP2 _ h39 h40) ((Below.refl _ _).alloc (Nat.le_refl _) _) (fun h => by cases h)
    refine steps2_cons ?_ ?_
    · as_aux_lemma =>
      intro f w1 hb hd Q hK
      obtain ⟨g41, e41, lt41, h41⟩ := (hd.1 rfl : SlP 2 (p2 (Fe.ax x1 y1 x2 y2) x3) (p2 (Fe.ay x1 y1 x2 y2) y3) (f 41) w1)
      clear hd
      simp only [e41] at hK
      have hK := Lib.hid hK
      go_wp2_with fail
      refine (addq2_c g41 _ _ _ _ _ lt41 h41 (hC7.below hb hC7.lt)).mono ?_
      rintro e w2 ⟨X, Y, Z, T, rfl, hx, hb2⟩
      go_wp2
      exact hK.out _ _ ⟨X, Y, Z, T, rfl, hx⟩ hb2 (fun h => by cases h)
    refine steps2_cons ?_ ?_
    · as_aux_lemma =>
      intro f w1 hb hd Q hK
      clear hd
      have hK := Lib.hid hK
      refine ldPtG (by kernel_rfl) rfl rfl (k7.below hb) ?_
      refine wpList_nil ?_
      exact hK.out _ _ ⟨_, _, _, _, rfl, hE1.out⟩ (Below.refl _ _) (fun h => by cases h)
    refine steps2_cons ?_ ?_
    · as_aux_lemma =>
      intro f w1 hb hd Q hK
      clear hd
      have hK := Lib.hid hK
      refine ldPtG (by kernel_rfl) rfl rfl (k8.below hb) ?_
      refine wpList_nil ?_
      exact hK.out _ _ ⟨_, _, _, _, rfl, hE2.out⟩ (Below.refl _ _) (fun h => by cases h)
    refine steps2_cons ?_ ?_
    · as_aux_lemma =>
      intro f w1 hb hd Q hK
      clear hd
      have hK := Lib.hid hK
      refine ldPtG (by kernel_rfl) rfl rfl (m9.below hb) ?_
      refine wpList_nil ?_
      exact hK.out _ _ ⟨_, _, _, _, rfl, hE3.out⟩ (Below.refl _ _) (fun h => by cases h)
    refine steps2_cons ?_ ?_
    · as_aux_lemma =>
      intro f w1 hb hd Q hK
      obtain ⟨X44, Y44, Z44, T44, e44, h44⟩ := (hd.1 rfl : PqP x2 y2 (f 44) w1)
      obtain ⟨X45, Y45, Z45, T45, e45, h45⟩ := (hd.2.1 rfl : PqP x3 y3 (f 45) w1)
      clear hd
      simp only [e44, e45] at hK
      have hK := Lib.hid hK
      refine bs2G (by simp only [e44, e45]; kernel_rfl) rfl e44 e45 ?_
      refine wpList_nil ?_
      simp only [e44, e45]
      exact hK.out _ _ (slP2 _ h44 h45) ((Below.refl _ _).alloc (Nat.le_refl _) _) (fun h => by cases h)
    refine steps2_cons ?_ ?_
    · as_aux_lemma =>
      intro f w1 hb hd Q hK
      obtain ⟨g46, e46, lt46, h46⟩ := (hd.1 rfl : SlP 2 (p2 x2 x3) (p2 y2 y3) (f 46) w1)
      clear hd
      simp only [e46] at hK
      have hK := Lib.hid hK
      go_wp2_with fail
      refine (addq2_c g46 _ _ _ _ _ lt46 h46 (hC7.below hb hC7.lt)).mono ?_
      rintro e w2 ⟨X, Y, Z, T, rfl, hx, hb2⟩
      go_wp2
      exact hK.out _ _ ⟨X, Y, Z, T, rfl, hx⟩ hb2 (fun h => by cases h)
    refine steps2_cons ?_ ?_
    · as_aux_lemma =>
      intro f w1 hb hd Q hK
      obtain ⟨X43, Y43, Z43, T43, e43, h43⟩ := (hd.1 rfl : PqP x1 y1 (f 43) w1)
      obtain ⟨X47, Y47, Z47, T47, e47, h47⟩ := (hd.2.1 rfl : PqP (Fe.ax x2 y2 x3 y3) (Fe.ay x2 y2 x3 y3) (f 47) w1)
      clear hd
      simp only [e43, e47] at hK
      have hK := Lib.hid hK
      refine bs2G (by simp only [e43, e47]; kernel_rfl) rfl e43 e47 ?_
      refine wpList_nil ?_
      simp only [e43, e47]
      exact hK.out _ _ (slP2 _ h43 h47) ((Below.refl _ _).alloc (Nat.le_refl _) _) (fun h => by cases h)
    refine steps2_cons ?_ ?_
    · as_aux_lemma =>
      intro f w1 hb hd Q hK
      obtain ⟨g48, e48, lt48, h48⟩ := (hd.1 rfl : SlP 2 (p2 x1 (Fe.ax x2 y2 x3 y3)) (p2 y1 (Fe.ay x2 y2 x3 y3)) (f 48) w1)
      clear hd
      simp only [e48] at hK
      have hK := Lib.hid hK
      go_wp2_with fail
      refine (addq2_c g48 _ _ _ _ _ lt48 h48 (hC7.below hb hC7.lt)).mono ?_
      rintro e w2 ⟨X, Y, Z, T, rfl, hx, hb2⟩
      go_wp2
      exact hK.out _ _ ⟨X, Y, Z, T, rfl, hx⟩ hb2 (fun h => by cases h)
    refine steps2_cons ?_ ?_
    · as_aux_lemma =>
      intro f w1 hb hd Q hK
      clear hd
      have hK := Lib.hid hK
      have hsz := hb.size
      go_wp2
      exact hK.out _ _ ⟨_, rfl, hsz, Blk.new _ _ _⟩ ((Below.refl _ _).alloc (Nat.le_refl _) _) (fun _ => ⟨_, rfl, Nat.le_refl _⟩)
    refine steps2_cons ?_ ?_
    · as_aux_lemma =>
      intro f w1 hb hd Q hK
      clear hd
      have hK := Lib.hid hK
      have hsz := hb.size
      go_wp2
      exact hK.out _ _ ⟨_, rfl, hsz, Blk.new _ _ _⟩ ((Below.refl _ _).alloc (Nat.le_refl _) _) (fun _ => ⟨_, rfl, Nat.le_refl _⟩)
    trivial
  · intro f6 w8 hb hf hne
    obtain ⟨g10, d10, lo10, bk10⟩ : NewB w7.heap.size 29 #[.int .u64 0, .int .u64 0, .int .u64 0, .int .u64 0, .int .u64 0, .int .u64 0, .int .u64 0, .int .u64 0, .int .u64 0, .int .u64 0, .int .u64 0, .int .u64 0, .int .u64 0, .int .u64 0, .int .u64 0, .int .u64 0, .int .u64 0, .int .u64 0, .int .u64 0, .int .u64 0] (f6 10) w8 := hf 14 _ _ (by decide) rfl rfl
    obtain ⟨g11, d11, lo11, bk11⟩ : NewB w7.heap.size 29 #[.int .u64 0, .int .u64 0, .int .u64 0, .int .u64 0, .int .u64 0, .int .u64 0, .int .u64 0, .int .u64 0, .int .u64 0, .int .u64 0, .int .u64 0, .int .u64 0, .int .u64 0, .int .u64 0, .int .u64 0, .int .u64 0, .int .u64 0, .int .u64 0, .int .u64 0, .int .u64 0] (f6 11) w8 := hf 15 _ _ (by decide) rfl rfl
    obtain ⟨X42, Y42, Z42, T42, d42, h42⟩ : PqP (Fe.ax (Fe.ax x1 y1 x2 y2) (Fe.ay x1 y1 x2 y2) x3 y3) (Fe.ay (Fe.ax x1 y1 x2 y2) (Fe.ay x1 y1 x2 y2) x3 y3) (f6 42) w8 := hf 6 _ _ (by decide) rfl rfl
    obtain ⟨X49, Y49, Z49, T49, d49, h49⟩ : PqP (Fe.ax x1 y1 (Fe.ax x2 y2 x3 y3) (Fe.ay x2 y2 x3 y3)) (Fe.ay x1 y1 (Fe.ax x2 y2 x3 y3) (Fe.ay x2 y2 x3 y3)) (f6 49) w8 := hf 13 _ _ (by decide) rfl rfl
    clear hf
    have LS := hb0.size
    have n_g10_g11 : g10 ≠ g11 := by
      have := hne 14 15 _ _ _ _ (by decide) (by decide) (by decide) rfl rfl rfl rfl rfl rfl
      rw [d10, d11] at this
      exact fun h => this (by rw [h])
    clear hne
    have l10 : w.heap.size ≤ g10 := by omega
    have l11 : w.heap.size ≤ g11 := by omega
    have n7_10 : G7 ≠ g10 := by have := k7.lt; omega
    have n7_11 : G7 ≠ g11 := by have := k7.lt; omega
    have n8_10 : G8 ≠ g10 := by have := k8.lt; omega
    have n8_11 : G8 ≠ g11 := by have := k8.lt; omega
    have n9_10 : G9 ≠ g10 := by have := m9.lt; omega
    have n9_11 : G9 ≠ g11 := by have := m9.lt; omega
    clear LS lo10 lo11
    simp only [d10, d11, d42, d49]
    clear d10 d11 d42 d49
    replace k7 := k7.below hb
    replace k8 := k8.below hb
    replace m9 := m9.below hb
    replace hb0 := hb0.trans (hb.mono hb0.size)
    clear hb hC7
    rw [← Fe.ax_assoc hc1.out hc2.out hc3.out, ← Fe.ay_assoc hc1.out hc2.out hc3.out] at h49
    obtain ⟨OX, hOX⟩ : ∃ v, Fe.ax (Fe.ax x1 y1 x2 y2) (Fe.ay x1 y1 x2 y2) x3 y3 = v := ⟨_, rfl⟩
    obtain ⟨OY, hOY⟩ : ∃ v, Fe.ay (Fe.ax x1 y1 x2 y2) (Fe.ay x1 y1 x2 y2) x3 y3 = v := ⟨_, rfl⟩
    rw [hOX, hOY] at h42 h49
    replace hOX := Lib.hid hOX
    replace hOY := Lib.hid hOY
    refine stPt rfl rfl rfl rfl bk10 rfl rfl (by kernel_rfl) ?_
    intro w9 k10 hgr hsz
    replace k7 := k7.grown hgr (fun h => n7_10 (by injection h))
    replace k8 := k8.grown hgr (fun h => n8_10 (by injection h))
    replace m9 := m9.grown hgr (fun h => n9_10 (by injection h))
    replace bk11 := bk11.grown hgr (fun h => n_g10_g11 (by injection h with h; exact h.symm))
    replace hb0 := hb0.grown hgr hb0.size (fun k hk => by injection hk with hk; omega)
    clear hgr hsz bk10
    refine stPt rfl rfl rfl rfl bk11 rfl rfl (by kernel_rfl) ?_
    intro w10 k11 hgr hsz
    replace k7 := k7.grown hgr (fun h => n7_11 (by injection h))
    replace k8 := k8.grown hgr (fun h => n8_11 (by injection h))
    replace m9 := m9.grown hgr (fun h => n9_11 (by injection h))
    replace k10 := k10.grown hgr (fun h => n_g10_g11 (by injection h))
    replace hb0 := hb0.grown hgr hb0.size (fun k hk => by injection hk with hk; omega)
    clear hgr hsz bk11
    replace h42 := Lib.hid h42
    replace h49 := Lib.hid h49
    refine wpList_nil ?_
    go_wp2_with (first | (refine ldPt rfl rfl rfl m9 rfl ?_) | (refine ldPt rfl rfl rfl k8 rfl ?_) | (refine ldPt rfl rfl rfl k7 rfl ?_) | (refine bs3 rfl rfl rfl rfl rfl ?_))
    refine calls_at (fun w11 hW => ?_)
    have hb : Below w10.heap.size w10 w11 := by rw [hW]; exact (Below.refl _ _).alloc (Nat.le_refl _) _
    obtain ⟨g12, hg12, lt12, hPts⟩ : SlP 3 (p3 x3 x2 x1) (p3 y3 y2 y1) (.slice (some ⟨w10.heap.size, 0, none⟩) 3 3) w11 := by rw [hW]; simpa only [Array.append_assoc] using slP3 w10 hE3.out hE2.out hE1.out
    injection hg12 with hg12
    injection hg12 with hg12
    injection hg12 with hg12
    rw [hg12]
    replace k7 := k7.below hb
    replace k8 := k8.below hb
    replace m9 := m9.below hb
    replace k10 := k10.below hb
    replace k11 := k11.below hb
    replace hb0 := hb0.trans (hb.mono hb0.size)
    clear hW hb hg12
    refine (addq3_c g12 x3 y3 x2 y2 x1 y1 w11 lt12 hPts (hCv.out.below hb0 hCv.out.lt)).mono ?_
    rintro e w12 ⟨X4, Y4, Z4, T4, rfl, hE4, hb⟩
    rw [Fe.ax_comm x3 y3 x2 y2, Fe.ay_comm x3 y3 x2 y2, Fe.ax_comm _ _ x1 y1, Fe.ay_comm _ _ x1 y1, ← Fe.ax_assoc hc1.out hc2.out hc3.out, ← Fe.ay_assoc hc1.out hc2.out hc3.out, hOX.out, hOY.out] at hE4
    replace hE4 := Lib.hid hE4
    replace k7 := k7.below hb
    replace k8 := k8.below hb
    replace m9 := m9.below hb
    replace k10 := k10.below hb
    replace k11 := k11.below hb
    replace hb0 := hb0.trans (hb.mono hb0.size)
    clear hb lt12 hPts
    go_wp2_with (first | (refine stPt rfl rfl rfl rfl (Blk.new _ _ _) rfl rfl (by kernel_rfl) ?_; intro w13 k12 hgr hsz))
    have hb : Below w12.heap.size w12 w13 := ((Below.refl _ _).alloc (Nat.le_refl _) _).grown hgr (by rw [World.size_alloc]; omega) (fun k hk => by injection hk with hk; omega)
    replace k7 := k7.below hb
    replace k8 := k8.below hb
    replace m9 := m9.below hb
    replace k10 := k10.below hb
    replace k11 := k11.below hb
    replace hb0 := hb0.trans (hb.mono hb0.size)
    clear hb hgr hsz
    obtain ⟨G12, hG12⟩ : ∃ G, G = w12.heap.size := ⟨_, rfl⟩
    rw [← hG12] at k12 ⊢
    clear hG12
    have sN := Lib.hid (same_negG hc1.out)
    have hC13 := hCv.out.below hb0 hCv.out.lt
    refine wp_region_grow2 39 (fun k => (Nat.ble 55 k && Nat.ble k 93)) _ [] (fun j x' q => (gr8L x1 y1 OX OY).getD j (fun _ _ => True) x' q) (fun _ => false) (fun f => #[.slice q1 n1 c1, .slice q2 n2 c2, .slice q3 n3 c3, undef, undef, undef, .bool false, .pointer (some ⟨G7, 0, none⟩), .pointer (some ⟨G8, 0, none⟩), .pointer (some ⟨G9, 0, none⟩), .pointer (some ⟨g10, 0, none⟩), .pointer (some ⟨g11, 0, none⟩), .pointer (some ⟨G12, 0, none⟩), undef, undef, .bool true, .bool false, .slice q1 n1 c1, .int .i64 (n1 : Int), .bool (decide (100 < (n1 : Int))), .bool (decide (100 < (n1 : Int))), .slice q2 n2 c2, .int .i64 (n2 : Int), .bool (decide (100 < (n2 : Int))), .bool (decide (100 < (n1 : Int)) || decide (100 < (n2 : Int))), .bool (decide (100 < (n1 : Int)) || decide (100 < (n2 : Int))), .slice q3 n3 c3, .int .i64 (n3 : Int), .bool (decide (100 < (n3 : Int))), .bool (decide (100 < (n1 : Int)) || decide (100 < (n2 : Int)) || decide (100 < (n3 : Int))), .slice q1 n1 c1, .agg (pcs X1 Y1 Z1 T1), .slice q2 n2 c2, .agg (pcs X2 Y2 Z2 T2), .slice q3 n3 c3, .agg (pcs X3 Y3 Z3 T3), f6 36, f6 37, f6 38, f6 39, f6 40, f6 41, .agg (pcs X42 Y42 Z42 T42), f6 43, f6 44, f6 45, f6 46, f6 47, f6 48, .agg (pcs X49 Y49 Z49 T49), .agg (pcs X3 Y3 Z3 T3), .agg (pcs X2 Y2 Z2 T2), .agg (pcs X1 Y1 Z1 T1), .slice (some ⟨g12, 0, none⟩) 3 3, .agg (pcs X4 Y4 Z4 T4), f 55, f 56, f 57, f 58, f 59, f 60, f 61, f 62, f 63, f 64, f 65, f 66, f 67, f 68, f 69, f 70, f 71, f 72, f 73, f 74, f 75, f 76, f 77, f 78, f 79, f 80, f 81, f 82, f 83, f 84, f 85, f 86, f 87, f 88, f 89, f 90, f 91, f 92, f 93, undef, undef, undef, undef, undef, undef, undef, undef, undef, undef, undef, undef, undef, undef, undef, undef, undef, undef, undef, undef, undef, undef, undef, undef, undef, undef, undef, undef, undef, undef, undef, undef, undef, undef, undef, undef, undef, undef]) (fun f => rfl) (by kernel_rfl) (by kernel_rfl) (by kernel_rfl) (by kernel_rfl) (by kernel_rfl) (gr8S _ _ _ _) (fun _ _ _ h => by cases h) ?_ ?_
    · refine steps2_cons ?_ ?_
      · as_aux_lemma =>
        intro f w1 hb hd Q hK
        clear hd
        have hK := Lib.hid hK
        refine ldPtG (by kernel_rfl) rfl rfl (k10.below hb) ?_
        refine wpList_nil ?_
        exact hK.out _ _ ⟨_, _, _, _, rfl, h42.out⟩ (Below.refl _ _) (fun h => by cases h)
      refine steps2_cons ?_ ?_
      · as_aux_lemma =>
        intro f w1 hb hd Q hK
        clear hd
        have hK := Lib.hid hK
        refine ldPtG (by kernel_rfl) rfl rfl (k11.below hb) ?_
        refine wpList_nil ?_
        exact hK.out _ _ ⟨_, _, _, _, rfl, h49.out⟩ (Below.refl _ _) (fun h => by cases h)
      refine steps2_cons ?_ ?_
      · as_aux_lemma =>
        intro f w1 hb hd Q hK
        obtain ⟨X55, Y55, Z55, T55, e55, h55⟩ := (hd.1 rfl : PqP OX OY (f 55) w1)
        obtain ⟨X56, Y56, Z56, T56, e56, h56⟩ := (hd.2.1 rfl : PqP OX OY (f 56) w1)
        clear hd
        simp only [e55, e56] at hK
        have hK := Lib.hid hK
        go_wp2_with fail
        refine (pssameV h55 h56 (same_refl _ _) _).mono ?_
        rintro e w2 ⟨rfl, hb2⟩
        go_wp2
        exact hK.out _ _ rfl hb2 (fun h => by cases h)
      refine steps2_cons ?_ ?_
      · as_aux_lemma =>
        intro f w1 hb hd Q hK
        have e57 : f 57 = .bool true := hd.1 rfl
        clear hd
        simp only [e57] at hK
        have hK := Lib.hid hK
        go_wp2
        exact hK.out _ _ rfl (Below.refl _ _) (fun h => by cases h)
      refine steps2_cons ?_ ?_
      · as_aux_lemma =>
        intro f w1 hb hd Q hK
        have e58 : f 58 = .bool false := hd.1 rfl
        clear hd
        simp only [e58] at hK
        have hK := Lib.hid hK
        go_wp2
        exact hK.out _ _ rfl (Below.refl _ _) (fun h => by cases h)
      refine steps2_cons ?_ ?_
      · as_aux_lemma =>
        intro f w1 hb hd Q hK
        have e59 : f 59 = .bool false := hd.1 rfl
        clear hd
        simp only [e59] at hK
        have hK := Lib.hid hK
        refine ldPtG (by simp only [e59]; kernel_rfl) rfl rfl (k10.below hb) ?_
        refine wpList_nil ?_
        simp only [e59]
        exact hK.out _ _ ⟨_, _, _, _, rfl, h42.out⟩ (Below.refl _ _) (fun h => by cases h)
      refine steps2_cons ?_ ?_
      · as_aux_lemma =>
        intro f w1 hb hd Q hK
        have e59 : f 59 = .bool false := hd.1 rfl
        clear hd
        simp only [e59] at hK
        have hK := Lib.hid hK
        refine ldPtG (by simp only [e59]; kernel_rfl) rfl rfl (k12.below hb) ?_
        refine wpList_nil ?_
        simp only [e59]
        exact hK.out _ _ ⟨_, _, _, _, rfl, hE4.out⟩ (Below.refl _ _) (fun h => by cases h)
      refine steps2_cons ?_ ?_
      · as_aux_lemma =>
        intro f w1 hb hd Q hK
        obtain ⟨X60, Y60, Z60, T60, e60, h60⟩ := (hd.1 rfl : PqP OX OY (f 60) w1)
        obtain ⟨X61, Y61, Z61, T61, e61, h61⟩ := (hd.2.1 rfl : PqP OX OY (f 61) w1)
        have e59 : f 59 = .bool false := hd.2.2.1 rfl
        clear hd
        simp only [e60, e61, e59] at hK
        have hK := Lib.hid hK
        go_wp2_with fail
        refine (pssameV h60 h61 (same_refl _ _) _).mono ?_
        rintro e w2 ⟨rfl, hb2⟩
        go_wp2
        exact hK.out _ _ rfl hb2 (fun h => by cases h)
      refine steps2_cons ?_ ?_
      · as_aux_lemma =>
        intro f w1 hb hd Q hK
        have e62 : f 62 = .bool true := hd.1 rfl
        have e59 : f 59 = .bool false := hd.2.1 rfl
        clear hd
        simp only [e62, e59] at hK
        have hK := Lib.hid hK
        go_wp2
        exact hK.out _ _ rfl (Below.refl _ _) (fun h => by cases h)
      refine steps2_cons ?_ ?_
      · as_aux_lemma =>
        intro f w1 hb hd Q hK
        have e59 : f 59 = .bool false := hd.1 rfl
        have e63 : f 63 = .bool false := hd.2.1 rfl
        clear hd
        simp only [e59, e63] at hK
        have hK := Lib.hid hK
        go_wp2
        exact hK.out _ _ rfl (Below.refl _ _) (fun h => by cases h)
      refine steps2_cons ?_ ?_
      · as_aux_lemma =>
        intro f w1 hb hd Q hK
        have e64 : f 64 = .bool false := hd.1 rfl
        clear hd
        simp only [e64] at hK
        have hK := Lib.hid hK
        go_wp2
        exact hK.out _ _ rfl (Below.refl _ _) (fun h => by cases h)
      refine steps2_cons ?_ ?_
      · as_aux_lemma =>
        intro f w1 hb hd Q hK
        have e65 : f 65 = .bool false := hd.1 rfl
        clear hd
        simp only [e65] at hK
        have hK := Lib.hid hK
        refine ldPtG (by simp only [e65]; kernel_rfl) rfl rfl (k7.below hb) ?_
        refine wpList_nil ?_
        simp only [e65]
        exact hK.out _ _ ⟨_, _, _, _, rfl, hE1.out⟩ (Below.refl _ _) (fun h => by cases h)
      refine steps2_cons ?_ ?_
      · as_aux_lemma =>
        intro f w1 hb hd Q hK
        have e65 : f 65 = .bool false := hd.1 rfl
        clear hd
        simp only [e65] at hK
        have hK := Lib.hid hK
        refine ldPtG (by simp only [e65]; kernel_rfl) rfl rfl (k7.below hb) ?_
        refine wpList_nil ?_
        simp only [e65]
        exact hK.out _ _ ⟨_, _, _, _, rfl, hE1.out⟩ (Below.refl _ _) (fun h => by cases h)
      refine steps2_cons ?_ ?_
      · as_aux_lemma =>
        intro f w1 hb hd Q hK
        obtain ⟨X67, Y67, Z67, T67, e67, h67⟩ := (hd.1 rfl : PqP x1 y1 (f 67) w1)
        have e65 : f 65 = .bool false := hd.2.1 rfl
        clear hd
        simp only [e67, e65] at hK
        have hK := Lib.hid hK
        go_wp2_with fail
        refine (pneg_c _ h67).mono ?_
        rintro e w2 ⟨X, Y, Z, T, rfl, hx, hb2⟩
        go_wp2
        exact hK.out _ _ ⟨X, Y, Z, T, rfl, hx⟩ hb2 (fun h => by cases h)
      refine steps2_cons ?_ ?_
      · as_aux_lemma =>
        intro f w1 hb hd Q hK
        obtain ⟨X66, Y66, Z66, T66, e66, h66⟩ := (hd.1 rfl : PqP x1 y1 (f 66) w1)
        obtain ⟨X68, Y68, Z68, T68, e68, h68⟩ := (hd.2.1 rfl : PqP (-x1) y1 (f 68) w1)
        have e65 : f 65 = .bool false := hd.2.2.1 rfl
        clear hd
        simp only [e66, e68, e65] at hK
        have hK := Lib.hid hK
        refine bs2G (by simp only [e66, e68, e65]; kernel_rfl) rfl e66 e68 ?_
        refine wpList_nil ?_
        simp only [e66, e68, e65]
        exact hK.out _ _ (slP2 _ h66 h68) ((Below.refl _ _).alloc (Nat.le_refl _) _) (fun h => by cases h)
      refine steps2_cons ?_ ?_
      · as_aux_lemma =>
        intro f w1 hb hd Q hK
        obtain ⟨g69, e69, lt69, h69⟩ := (hd.1 rfl : SlP 2 (p2 x1 (-x1)) (p2 y1 y1) (f 69) w1)
        have e65 : f 65 = .bool false := hd.2.2.1 rfl
        clear hd
        simp only [e69, e65] at hK
        have hK := Lib.hid hK
        go_wp2_with fail
        refine (addq2_c g69 _ _ _ _ _ lt69 h69 (hC13.below hb hC13.lt)).mono ?_
        rintro e w2 ⟨X, Y, Z, T, rfl, hx, hb2⟩
        go_wp2
        exact hK.out _ _ ⟨X, Y, Z, T, rfl, hx⟩ hb2 (fun h => by cases h)
      refine steps2_cons ?_ ?_
      · as_aux_lemma =>
        intro f w1 hb hd Q hK
        have e65 : f 65 = .bool false := hd.2.1 rfl
        clear hd
        simp only [e65] at hK
        have hK := Lib.hid hK
        go_wp2_with fail
        refine (pzero_c _).mono ?_
        rintro e w2 ⟨X, Y, Z, T, rfl, hx, hb2⟩
        go_wp2
        exact hK.out _ _ ⟨X, Y, Z, T, rfl, hx⟩ hb2 (fun h => by cases h)
      refine steps2_cons ?_ ?_
      · as_aux_lemma =>
        intro f w1 hb hd Q hK
        obtain ⟨X70, Y70, Z70, T70, e70, h70⟩ := (hd.1 rfl : PqP (Fe.ax x1 y1 (-x1) y1) (Fe.ay x1 y1 (-x1) y1) (f 70) w1)
        obtain ⟨X71, Y71, Z71, T71, e71, h71⟩ := (hd.2.1 rfl : PqP 0 1 (f 71) w1)
        have e65 : f 65 = .bool false := hd.2.2.2.1 rfl
        clear hd
        simp only [e70, e71, e65] at hK
        have hK := Lib.hid hK
        go_wp2_with fail
        refine (pssameV h70 h71 sN.out _).mono ?_
        rintro e w2 ⟨rfl, hb2⟩
        go_wp2
        exact hK.out _ _ rfl hb2 (fun h => by cases h)
      refine steps2_cons ?_ ?_
      · as_aux_lemma =>
        intro f w1 hb hd Q hK
        have e72 : f 72 = .bool true := hd.1 rfl
        have e65 : f 65 = .bool false := hd.2.1 rfl
        clear hd
        simp only [e72, e65] at hK
        have hK := Lib.hid hK
        go_wp2
        exact hK.out _ _ rfl (Below.refl _ _) (fun h => by cases h)
      refine steps2_cons ?_ ?_
      · as_aux_lemma =>
        intro f w1 hb hd Q hK
        have e65 : f 65 = .bool false := hd.1 rfl
        have e73 : f 73 = .bool false := hd.2.1 rfl
        clear hd
        simp only [e65, e73] at hK
        have hK := Lib.hid hK
        go_wp2
        exact hK.out _ _ rfl (Below.refl _ _) (fun h => by cases h)
      refine steps2_cons ?_ ?_
      · as_aux_lemma =>
        intro f w1 hb hd Q hK
        have e74 : f 74 = .bool false := hd.1 rfl
        clear hd
        simp only [e74] at hK
        have hK := Lib.hid hK
        go_wp2
        exact hK.out _ _ rfl (Below.refl _ _) (fun h => by cases h)
      refine steps2_cons ?_ ?_
      · as_aux_lemma =>
        intro f w1 hb hd Q hK
        have e75 : f 75 = .bool false := hd.1 rfl
        clear hd
        simp only [e75] at hK
        have hK := Lib.hid hK
        refine ldPtG (by simp only [e75]; kernel_rfl) rfl rfl (k7.below hb) ?_
        refine wpList_nil ?_
        simp only [e75]
        exact hK.out _ _ ⟨_, _, _, _, rfl, hE1.out⟩ (Below.refl _ _) (fun h => by cases h)
      refine steps2_cons ?_ ?_
      · as_aux_lemma =>
        intro f w1 hb hd Q hK
        obtain ⟨X76, Y76, Z76, T76, e76, h76⟩ := (hd.1 rfl : PqP x1 y1 (f 76) w1)
        have e75 : f 75 = .bool false := hd.2.1 rfl
        clear hd
        simp only [e76, e75] at hK
        have hK := Lib.hid hK
        go_wp2_with fail
        refine (pdbl_c _ h76).mono ?_
        rintro e w2 ⟨X, Y, Z, T, rfl, hx, hb2⟩
        go_wp2
        exact hK.out _ _ ⟨X, Y, Z, T, rfl, hx⟩ hb2 (fun h => by cases h)
      refine steps2_cons ?_ ?_
      · as_aux_lemma =>
        intro f w1 hb hd Q hK
        have e75 : f 75 = .bool false := hd.1 rfl
        clear hd
        simp only [e75] at hK
        have hK := Lib.hid hK
        refine ldPtG (by simp only [e75]; kernel_rfl) rfl rfl (k7.below hb) ?_
        refine wpList_nil ?_
        simp only [e75]
        exact hK.out _ _ ⟨_, _, _, _, rfl, hE1.out⟩ (Below.refl _ _) (fun h => by cases h)
      refine steps2_cons ?_ ?_
      · as_aux_lemma =>
        intro f w1 hb hd Q hK
        have e75 : f 75 = .bool false := hd.1 rfl
        clear hd
        simp only [e75] at hK
        have hK := Lib.hid hK
        refine ldPtG (by simp only [e75]; kernel_rfl) rfl rfl (k7.below hb) ?_
        refine wpList_nil ?_
        simp only [e75]
        exact hK.out _ _ ⟨_, _, _, _, rfl, hE1.out⟩ (Below.refl _ _) (fun h => by cases h)
      refine steps2_cons ?_ ?_
      · as_aux_lemma =>
        intro f w1 hb hd Q hK
        obtain ⟨X78, Y78, Z78, T78, e78, h78⟩ := (hd.1 rfl : PqP x1 y1 (f 78) w1)
        obtain ⟨X79, Y79, Z79, T79, e79, h79⟩ := (hd.2.1 rfl : PqP x1 y1 (f 79) w1)
        have e75 : f 75 = .bool false := hd.2.2.1 rfl
        clear hd
        simp only [e78, e79, e75] at hK
        have hK := Lib.hid hK
        refine bs2G (by simp only [e78, e79, e75]; kernel_rfl) rfl e78 e79 ?_
        refine wpList_nil ?_
        simp only [e78, e79, e75]
        exact hK.out _ _ (slP2 _ h78 h79) ((Below.refl _ _).alloc (Nat.le_refl _) _) (fun h => by cases h)
      refine steps2_cons ?_ ?_
      · as_aux_lemma =>
        intro f w1 hb hd Q hK
        obtain ⟨g80, e80, lt80, h80⟩ := (hd.1 rfl : SlP 2 (p2 x1 x1) (p2 y1 y1) (f 80) w1)
        have e75 : f 75 = .bool false := hd.2.2.1 rfl
        clear hd
        simp only [e80, e75] at hK
        have hK := Lib.hid hK
        go_wp2_with fail
        refine (addq2_c g80 _ _ _ _ _ lt80 h80 (hC13.below hb hC13.lt)).mono ?_
        rintro e w2 ⟨X, Y, Z, T, rfl, hx, hb2⟩
        go_wp2
        exact hK.out _ _ ⟨X, Y, Z, T, rfl, hx⟩ hb2 (fun h => by cases h)
      refine steps2_cons ?_ ?_
      · as_aux_lemma =>
        intro f w1 hb hd Q hK
        obtain ⟨X77, Y77, Z77, T77, e77, h77⟩ := (hd.1 rfl : PqP (Fe.ax x1 y1 x1 y1) (Fe.ay x1 y1 x1 y1) (f 77) w1)
        obtain ⟨X81, Y81, Z81, T81, e81, h81⟩ := (hd.2.1 rfl : PqP (Fe.ax x1 y1 x1 y1) (Fe.ay x1 y1 x1 y1) (f 81) w1)
        have e75 : f 75 = .bool false := hd.2.2.2.1 rfl
        clear hd
        simp only [e77, e81, e75] at hK
        have hK := Lib.hid hK
        go_wp2_with fail
        refine (pssameV h77 h81 (same_refl _ _) _).mono ?_
        rintro e w2 ⟨rfl, hb2⟩
        go_wp2
        exact hK.out _ _ rfl hb2 (fun h => by cases h)
      refine steps2_cons ?_ ?_
      · as_aux_lemma =>
        intro f w1 hb hd Q hK
        have e82 : f 82 = .bool true := hd.1 rfl
        have e75 : f 75 = .bool false := hd.2.1 rfl
        clear hd
        simp only [e82, e75] at hK
        have hK := Lib.hid hK
        go_wp2
        exact hK.out _ _ rfl (Below.refl _ _) (fun h => by cases h)
      refine steps2_cons ?_ ?_
      · as_aux_lemma =>
        intro f w1 hb hd Q hK
        have e75 : f 75 = .bool false := hd.1 rfl
        have e83 : f 83 = .bool false := hd.2.1 rfl
        clear hd
        simp only [e75, e83] at hK
        have hK := Lib.hid hK
        go_wp2
        exact hK.out _ _ rfl (Below.refl _ _) (fun h => by cases h)
      refine steps2_cons ?_ ?_
      · as_aux_lemma =>
        intro f w1 hb hd Q hK
        have e84 : f 84 = .bool false := hd.1 rfl
        clear hd
        simp only [e84] at hK
        have hK := Lib.hid hK
        go_wp2
        exact hK.out _ _ rfl (Below.refl _ _) (fun h => by cases h)
      refine steps2_cons ?_ ?_
      · as_aux_lemma =>
        intro f w1 hb hd Q hK
        have e85 : f 85 = .bool false := hd.1 rfl
        clear hd
        simp only [e85] at hK
        have hK := Lib.hid hK
        refine ldPtG (by simp only [e85]; kernel_rfl) rfl rfl (k7.below hb) ?_
        refine wpList_nil ?_
        simp only [e85]
        exact hK.out _ _ ⟨_, _, _, _, rfl, hE1.out⟩ (Below.refl _ _) (fun h => by cases h)
      refine steps2_cons ?_ ?_
      · as_aux_lemma =>
        intro f w1 hb hd Q hK
        have e85 : f 85 = .bool false := hd.1 rfl
        clear hd
        simp only [e85] at hK
        have hK := Lib.hid hK
        go_wp2_with fail
        refine (pzero_c _).mono ?_
        rintro e w2 ⟨X, Y, Z, T, rfl, hx, hb2⟩
        go_wp2
        exact hK.out _ _ ⟨X, Y, Z, T, rfl, hx⟩ hb2 (fun h => by cases h)
      refine steps2_cons ?_ ?_
      · as_aux_lemma =>
        intro f w1 hb hd Q hK
        obtain ⟨X86, Y86, Z86, T86, e86, h86⟩ := (hd.1 rfl : PqP x1 y1 (f 86) w1)
        obtain ⟨X87, Y87, Z87, T87, e87, h87⟩ := (hd.2.1 rfl : PqP 0 1 (f 87) w1)
        have e85 : f 85 = .bool false := hd.2.2.1 rfl
        clear hd
        simp only [e86, e87, e85] at hK
        have hK := Lib.hid hK
        refine bs2G (by simp only [e86, e87, e85]; kernel_rfl) rfl e86 e87 ?_
        refine wpList_nil ?_
        simp only [e86, e87, e85]
        exact hK.out _ _ (slP2 _ h86 h87) ((Below.refl _ _).alloc (Nat.le_refl _) _) (fun h => by cases h)
      refine steps2_cons ?_ ?_
      · as_aux_lemma =>
        intro f w1 hb hd Q hK
        obtain ⟨g88, e88, lt88, h88⟩ := (hd.1 rfl : SlP 2 (p2 x1 0) (p2 y1 1) (f 88) w1)
        have e85 : f 85 = .bool false := hd.2.2.1 rfl
        clear hd
        simp only [e88, e85] at hK
        have hK := Lib.hid hK
        go_wp2_with fail
        refine (addq2_c g88 _ _ _ _ _ lt88 h88 (hC13.below hb hC13.lt)).mono ?_
        rintro e w2 ⟨X, Y, Z, T, rfl, hx, hb2⟩
        go_wp2
        exact hK.out _ _ ⟨X, Y, Z, T, rfl, hx⟩ hb2 (fun h => by cases h)
      refine steps2_cons ?_ ?_
      · as_aux_lemma =>
        intro f w1 hb hd Q hK
        have e85 : f 85 = .bool false := hd.1 rfl
        clear hd
        simp only [e85] at hK
        have hK := Lib.hid hK
        refine ldPtG (by simp only [e85]; kernel_rfl) rfl rfl (k7.below hb) ?_
        refine wpList_nil ?_
        simp only [e85]
        exact hK.out _ _ ⟨_, _, _, _, rfl, hE1.out⟩ (Below.refl _ _) (fun h => by cases h)
      refine steps2_cons ?_ ?_
      · as_aux_lemma =>
        intro f w1 hb hd Q hK
        obtain ⟨X89, Y89, Z89, T89, e89, h89⟩ := (hd.1 rfl : PqP (Fe.ax x1 y1 0 1) (Fe.ay x1 y1 0 1) (f 89) w1)
        obtain ⟨X90, Y90, Z90, T90, e90, h90⟩ := (hd.2.1 rfl : PqP x1 y1 (f 90) w1)
        have e85 : f 85 = .bool false := hd.2.2.2.1 rfl
        clear hd
        simp only [e89, e90, e85] at hK
        have hK := Lib.hid hK
        go_wp2_with fail
        refine (pssameV h89 h90 (same_zeroG _ _) _).mono ?_
        rintro e w2 ⟨rfl, hb2⟩
        go_wp2
        exact hK.out _ _ rfl hb2 (fun h => by cases h)
      refine steps2_cons ?_ ?_
      · as_aux_lemma =>
        intro f w1 hb hd Q hK
        have e91 : f 91 = .bool true := hd.1 rfl
        have e85 : f 85 = .bool false := hd.2.1 rfl
        clear hd
        simp only [e91, e85] at hK
        have hK := Lib.hid hK
        go_wp2
        exact hK.out _ _ rfl (Below.refl _ _) (fun h => by cases h)
      refine steps2_cons ?_ ?_
      · as_aux_lemma =>
        intro f w1 hb hd Q hK
        have e85 : f 85 = .bool false := hd.1 rfl
        have e92 : f 92 = .bool false := hd.2.1 rfl
        clear hd
        simp only [e85, e92] at hK
        have hK := Lib.hid hK
        go_wp2
        exact hK.out _ _ rfl (Below.refl _ _) (fun h => by cases h)
      trivial
    · intro f8 w14 hb hf hne
      refine wpList_nil ?_
      have d93 : f8 93 = .bool false := hf 38 _ _ (by decide) rfl rfl
      clear hf hne
      simp only [d93]
      clear d93 hC13
      replace k7 := k7.below hb
      replace k8 := k8.below hb
      replace m9 := m9.below hb
      replace k10 := k10.below hb
      replace k11 := k11.below hb
      replace k12 := k12.below hb
      replace hb0 := hb0.trans (hb.mono hb0.size)
      clear hb
      obtain ⟨EB, hEB⟩ : ∃ v, (decide (x1 = x2) && decide (y1 = y2)) = v := ⟨_, rfl⟩
      replace hEB := Lib.hid hEB
      have hC14 := hCv.out.below hb0 hCv.out.lt
      go_wp2
      refine wp_region_grow2 26 (fun k => (Nat.ble 94 k && Nat.ble k 119)) _ [] (fun j x' q => (gr10L x1 y1 x2 y2 OX OY EB).getD j (fun _ _ => True) x' q) (fun _ => false) (fun f => #[.slice q1 n1 c1, .slice q2 n2 c2, .slice q3 n3 c3, undef, undef, undef, .bool false, .pointer (some ⟨G7, 0, none⟩), .pointer (some ⟨G8, 0, none⟩), .pointer (some ⟨G9, 0, none⟩), .pointer (some ⟨g10, 0, none⟩), .pointer (some ⟨g11, 0, none⟩), .pointer (some ⟨G12, 0, none⟩), undef, undef, .bool true, .bool false, .slice q1 n1 c1, .int .i64 (n1 : Int), .bool (decide (100 < (n1 : Int))), .bool (decide (100 < (n1 : Int))), .slice q2 n2 c2, .int .i64 (n2 : Int), .bool (decide (100 < (n2 : Int))), .bool (decide (100 < (n1 : Int)) || decide (100 < (n2 : Int))), .bool (decide (100 < (n1 : Int)) || decide (100 < (n2 : Int))), .slice q3 n3 c3, .int .i64 (n3 : Int), .bool (decide (100 < (n3 : Int))), .bool (decide (100 < (n1 : Int)) || decide (100 < (n2 : Int)) || decide (100 < (n3 : Int))), .slice q1 n1 c1, .agg (pcs X1 Y1 Z1 T1), .slice q2 n2 c2, .agg (pcs X2 Y2 Z2 T2), .slice q3 n3 c3, .agg (pcs X3 Y3 Z3 T3), f6 36, f6 37, f6 38, f6 39, f6 40, f6 41, .agg (pcs X42 Y42 Z42 T42), f6 43, f6 44, f6 45, f6 46, f6 47, f6 48, .agg (pcs X49 Y49 Z49 T49), .agg (pcs X3 Y3 Z3 T3), .agg (pcs X2 Y2 Z2 T2), .agg (pcs X1 Y1 Z1 T1), .slice (some ⟨g12, 0, none⟩) 3 3, .agg (pcs X4 Y4 Z4 T4), f8 55, f8 56, f8 57, f8 58, f8 59, f8 60, f8 61, f8 62, f8 63, f8 64, f8 65, f8 66, f8 67, f8 68, f8 69, f8 70, f8 71, f8 72, f8 73, f8 74, f8 75, f8 76, f8 77, f8 78, f8 79, f8 80, f8 81, f8 82, f8 83, f8 84, f8 85, f8 86, f8 87, f8 88, f8 89, f8 90, f8 91, f8 92, .bool false, f 94, f 95, f 96, f 97, f 98, f 99, f 100, f 101, f 102, f 103, f 104, f 105, f 106, f 107, f 108, f 109, f 110, f 111, f 112, f 113, f 114, f 115, f 116, f 117, f 118, f 119, undef, undef, undef, undef, undef, undef, undef, undef, undef, undef, undef, undef]) (fun f => rfl) (by kernel_rfl) (by kernel_rfl) (by kernel_rfl) (by kernel_rfl) (by kernel_rfl) (gr10S _ _ _ _ _ _ _) (fun _ _ _ h => by cases h) ?_ ?_
      · refine steps2_cons ?_ ?_
        · as_aux_lemma =>
          intro f w1 hb hd Q hK
          clear hd
          have hK := Lib.hid hK
          refine ldPtG (by kernel_rfl) rfl rfl (k10.below hb) ?_
          refine wpList_nil ?_
          exact hK.out _ _ ⟨_, _, _, _, rfl, h42.out⟩ (Below.refl _ _) (fun h => by cases h)
        refine steps2_cons ?_ ?_
        · as_aux_lemma =>
          intro f w1 hb hd Q hK
          obtain ⟨X94, Y94, Z94, T94, e94, h94⟩ := (hd.1 rfl : PqP OX OY (f 94) w1)
          clear hd
          simp only [e94] at hK
          have hK := Lib.hid hK
          go_wp2_with fail
          refine (pson_c _ h94 (hC14.below hb hC14.lt)).mono ?_
          rintro e w2 ⟨rfl, hb2⟩
          go_wp2
          exact hK.out _ _ rfl hb2 (fun h => by cases h)
        refine steps2_cons ?_ ?_
        · as_aux_lemma =>
          intro f w1 hb hd Q hK
          have e95 : f 95 = .bool true := hd.1 rfl
          clear hd
          simp only [e95] at hK
          have hK := Lib.hid hK
          go_wp2
          exact hK.out _ _ rfl (Below.refl _ _) (fun h => by cases h)
        refine steps2_cons ?_ ?_
        · as_aux_lemma =>
          intro f w1 hb hd Q hK
          have e96 : f 96 = .bool false := hd.1 rfl
          clear hd
          simp only [e96] at hK
          have hK := Lib.hid hK
          go_wp2
          exact hK.out _ _ rfl (Below.refl _ _) (fun h => by cases h)
        refine steps2_cons ?_ ?_
        · as_aux_lemma =>
          intro f w1 hb hd Q hK
          have e97 : f 97 = .bool false := hd.1 rfl
          clear hd
          simp only [e97] at hK
          have hK := Lib.hid hK
          refine ldPtG (by simp only [e97]; kernel_rfl) rfl rfl (k7.below hb) ?_
          refine wpList_nil ?_
          simp only [e97]
          exact hK.out _ _ ⟨_, _, _, _, rfl, hE1.out⟩ (Below.refl _ _) (fun h => by cases h)
        refine steps2_cons ?_ ?_
        · as_aux_lemma =>
          intro f w1 hb hd Q hK
          obtain ⟨X98, Y98, Z98, T98, e98, h98⟩ := (hd.1 rfl : PqP x1 y1 (f 98) w1)
          have e97 : f 97 = .bool false := hd.2.1 rfl
          clear hd
          simp only [e98, e97] at hK
          have hK := Lib.hid hK
          go_wp2_with fail
          refine (pdbl_c _ h98).mono ?_
          rintro e w2 ⟨X, Y, Z, T, rfl, hx, hb2⟩
          go_wp2
          exact hK.out _ _ ⟨X, Y, Z, T, rfl, hx⟩ hb2 (fun h => by cases h)
        refine steps2_cons ?_ ?_
        · as_aux_lemma =>
          intro f w1 hb hd Q hK
          obtain ⟨X99, Y99, Z99, T99, e99, h99⟩ := (hd.1 rfl : PqP (Fe.ax x1 y1 x1 y1) (Fe.ay x1 y1 x1 y1) (f 99) w1)
          have e97 : f 97 = .bool false := hd.2.2.1 rfl
          clear hd
          simp only [e99, e97] at hK
          have hK := Lib.hid hK
          go_wp2_with fail
          refine (pson_c _ h99 (hC14.below hb hC14.lt)).mono ?_
          rintro e w2 ⟨rfl, hb2⟩
          go_wp2
          exact hK.out _ _ rfl hb2 (fun h => by cases h)
        refine steps2_cons ?_ ?_
        · as_aux_lemma =>
          intro f w1 hb hd Q hK
          have e100 : f 100 = .bool true := hd.1 rfl
          have e97 : f 97 = .bool false := hd.2.1 rfl
          clear hd
          simp only [e100, e97] at hK
          have hK := Lib.hid hK
          go_wp2
          exact hK.out _ _ rfl (Below.refl _ _) (fun h => by cases h)
        refine steps2_cons ?_ ?_
        · as_aux_lemma =>
          intro f w1 hb hd Q hK
          have e97 : f 97 = .bool false := hd.1 rfl
          have e101 : f 101 = .bool false := hd.2.1 rfl
          clear hd
          simp only [e97, e101] at hK
          have hK := Lib.hid hK
          go_wp2
          exact hK.out _ _ rfl (Below.refl _ _) (fun h => by cases h)
        refine steps2_cons ?_ ?_
        · as_aux_lemma =>
          intro f w1 hb hd Q hK
          have e102 : f 102 = .bool false := hd.1 rfl
          clear hd
          simp only [e102] at hK
          have hK := Lib.hid hK
          go_wp2
          exact hK.out _ _ rfl (Below.refl _ _) (fun h => by cases h)
        refine steps2_cons ?_ ?_
        · as_aux_lemma =>
          intro f w1 hb hd Q hK
          have e103 : f 103 = .bool false := hd.1 rfl
          clear hd
          simp only [e103] at hK
          have hK := Lib.hid hK
          refine ldPtG (by simp only [e103]; kernel_rfl) rfl rfl (k8.below hb) ?_
          refine wpList_nil ?_
          simp only [e103]
          exact hK.out _ _ ⟨_, _, _, _, rfl, hE2.out⟩ (Below.refl _ _) (fun h => by cases h)
        refine steps2_cons ?_ ?_
        · as_aux_lemma =>
          intro f w1 hb hd Q hK
          obtain ⟨X104, Y104, Z104, T104, e104, h104⟩ := (hd.1 rfl : PqP x2 y2 (f 104) w1)
          have e103 : f 103 = .bool false := hd.2.1 rfl
          clear hd
          simp only [e104, e103] at hK
          have hK := Lib.hid hK
          go_wp2_with fail
          refine (pneg_c _ h104).mono ?_
          rintro e w2 ⟨X, Y, Z, T, rfl, hx, hb2⟩
          go_wp2
          exact hK.out _ _ ⟨X, Y, Z, T, rfl, hx⟩ hb2 (fun h => by cases h)
        refine steps2_cons ?_ ?_
        · as_aux_lemma =>
          intro f w1 hb hd Q hK
          obtain ⟨X105, Y105, Z105, T105, e105, h105⟩ := (hd.1 rfl : PqP (-x2) y2 (f 105) w1)
          have e103 : f 103 = .bool false := hd.2.2.1 rfl
          clear hd
          simp only [e105, e103] at hK
          have hK := Lib.hid hK
          go_wp2_with fail
          refine (pson_c _ h105 (hC14.below hb hC14.lt)).mono ?_
          rintro e w2 ⟨rfl, hb2⟩
          go_wp2
          exact hK.out _ _ rfl hb2 (fun h => by cases h)
        refine steps2_cons ?_ ?_
        · as_aux_lemma =>
          intro f w1 hb hd Q hK
          have e106 : f 106 = .bool true := hd.1 rfl
          have e103 : f 103 = .bool false := hd.2.1 rfl
          clear hd
          simp only [e106, e103] at hK
          have hK := Lib.hid hK
          go_wp2
          exact hK.out _ _ rfl (Below.refl _ _) (fun h => by cases h)
        refine steps2_cons ?_ ?_
        · as_aux_lemma =>
          intro f w1 hb hd Q hK
          have e103 : f 103 = .bool false := hd.1 rfl
          have e107 : f 107 = .bool false := hd.2.1 rfl
          clear hd
          simp only [e103, e107] at hK
          have hK := Lib.hid hK
          go_wp2
          exact hK.out _ _ rfl (Below.refl _ _) (fun h => by cases h)
        refine steps2_cons ?_ ?_
        · as_aux_lemma =>
          intro f w1 hb hd Q hK
          have e108 : f 108 = .bool false := hd.1 rfl
          clear hd
          simp only [e108] at hK
          have hK := Lib.hid hK
          go_wp2
          exact hK.out _ _ rfl (Below.refl _ _) (fun h => by cases h)
        refine steps2_cons ?_ ?_
        · as_aux_lemma =>
          intro f w1 hb hd Q hK
          have e109 : f 109 = .bool false := hd.1 rfl
          clear hd
          simp only [e109] at hK
          have hK := Lib.hid hK
          refine ldPtG (by simp only [e109]; kernel_rfl) rfl rfl (k7.below hb) ?_
          refine wpList_nil ?_
          simp only [e109]
          exact hK.out _ _ ⟨_, _, _, _, rfl, hE1.out⟩ (Below.refl _ _) (fun h => by cases h)
        refine steps2_cons ?_ ?_
        · as_aux_lemma =>
          intro f w1 hb hd Q hK
          have e109 : f 109 = .bool false := hd.1 rfl
          clear hd
          simp only [e109] at hK
          have hK := Lib.hid hK
          refine ldPtG (by simp only [e109]; kernel_rfl) rfl rfl (k8.below hb) ?_
          refine wpList_nil ?_
          simp only [e109]
          exact hK.out _ _ ⟨_, _, _, _, rfl, hE2.out⟩ (Below.refl _ _) (fun h => by cases h)
        refine steps2_cons ?_ ?_
        · as_aux_lemma =>
          intro f w1 hb hd Q hK
          obtain ⟨X110, Y110, Z110, T110, e110, h110⟩ := (hd.1 rfl : PqP x1 y1 (f 110) w1)
          obtain ⟨X111, Y111, Z111, T111, e111, h111⟩ := (hd.2.1 rfl : PqP x2 y2 (f 111) w1)
          have e109 : f 109 = .bool false := hd.2.2.1 rfl
          clear hd
          simp only [e110, e111, e109] at hK
          have hK := Lib.hid hK
          go_wp2_with fail
          refine (pssameV h110 h111 hEB.out _).mono ?_
          rintro e w2 ⟨rfl, hb2⟩
          go_wp2
          exact hK.out _ _ rfl hb2 (fun h => by cases h)
        refine steps2_cons ?_ ?_
        · as_aux_lemma =>
          intro f w1 hb hd Q hK
          have e109 : f 109 = .bool false := hd.1 rfl
          clear hd
          simp only [e109] at hK
          have hK := Lib.hid hK
          refine ldPtG (by simp only [e109]; kernel_rfl) rfl rfl (k7.below hb) ?_
          refine wpList_nil ?_
          simp only [e109]
          exact hK.out _ _ ⟨_, _, _, _, rfl, hE1.out⟩ (Below.refl _ _) (fun h => by cases h)
        refine steps2_cons ?_ ?_
        · as_aux_lemma =>
          intro f w1 hb hd Q hK
          obtain ⟨X113, Y113, Z113, T113, e113, h113⟩ := (hd.1 rfl : PqP x1 y1 (f 113) w1)
          have e109 : f 109 = .bool false := hd.2.2.1 rfl
          clear hd
          simp only [e113, e109] at hK
          have hK := Lib.hid hK
          go_wp2_with fail
          refine (pput_c _ h113).mono ?_
          rintro e w2 ⟨g, hg, rfl, hR, hb2⟩
          go_wp2
          exact hK.out _ _ ⟨g, rfl, hR⟩ hb2 (fun h => by cases h)
        refine steps2_cons ?_ ?_
        · as_aux_lemma =>
          intro f w1 hb hd Q hK
          have e109 : f 109 = .bool false := hd.1 rfl
          clear hd
          simp only [e109] at hK
          have hK := Lib.hid hK
          refine ldPtG (by simp only [e109]; kernel_rfl) rfl rfl (k8.below hb) ?_
          refine wpList_nil ?_
          simp only [e109]
          exact hK.out _ _ ⟨_, _, _, _, rfl, hE2.out⟩ (Below.refl _ _) (fun h => by cases h)
        refine steps2_cons ?_ ?_
        · as_aux_lemma =>
          intro f w1 hb hd Q hK
          obtain ⟨X115, Y115, Z115, T115, e115, h115⟩ := (hd.1 rfl : PqP x2 y2 (f 115) w1)
          have e109 : f 109 = .bool false := hd.2.2.1 rfl
          clear hd
          simp only [e115, e109] at hK
          have hK := Lib.hid hK
          go_wp2_with fail
          refine (pput_c _ h115).mono ?_
          rintro e w2 ⟨g, hg, rfl, hR, hb2⟩
          go_wp2
          exact hK.out _ _ ⟨g, rfl, hR⟩ hb2 (fun h => by cases h)
        refine steps2_cons ?_ ?_
        · as_aux_lemma =>
          intro f w1 hb hd Q hK
          obtain ⟨g114, e114, h114⟩ := (hd.1 rfl : PtBy x1 y1 (f 114) w1)
          obtain ⟨g116, e116, h116⟩ := (hd.2.1 rfl : PtBy x2 y2 (f 116) w1)
          have e109 : f 109 = .bool false := hd.2.2.2.1 rfl
          clear hd
          simp only [e114, e116, e109] at hK
          have hK := Lib.hid hK
          go_wp2_with fail
          refine (sameEncB hc1.out hc2.out hEB.out g114 g116 _ h114 h116).mono ?_
          rintro e w2 ⟨rfl, hb2⟩
          go_wp2
          exact hK.out _ _ rfl hb2 (fun h => by cases h)
        refine steps2_cons ?_ ?_
        · as_aux_lemma =>
          intro f w1 hb hd Q hK
          have e112 : f 112 = .bool EB := hd.1 rfl
          have e117 : f 117 = .bool EB := hd.2.1 rfl
          have e109 : f 109 = .bool false := hd.2.2.1 rfl
          clear hd
          simp only [e112, e117, e109] at hK
          have hK := Lib.hid hK
          go_wp2
          exact hK.out _ _ rfl (Below.refl _ _) (fun h => by cases h)
        refine steps2_cons ?_ ?_
        · as_aux_lemma =>
          intro f w1 hb hd Q hK
          have e109 : f 109 = .bool false := hd.1 rfl
          have e118 : f 118 = .bool false := hd.2.1 rfl
          clear hd
          simp only [e109, e118] at hK
          have hK := Lib.hid hK
          go_wp2
          exact hK.out _ _ rfl (Below.refl _ _) (fun h => by cases h)
        trivial
      · intro f10 w15 hb hf hne
        refine wpList_nil ?_
        have d119 : f10 119 = .bool false := hf 25 _ _ (by decide) rfl rfl
        clear hf hne
        simp only [d119]
        clear d119 hC14
        replace k7 := k7.below hb
        replace k8 := k8.below hb
        replace m9 := m9.below hb
        replace k10 := k10.below hb
        replace k11 := k11.below hb
        replace k12 := k12.below hb
        replace hb0 := hb0.trans (hb.mono hb0.size)
        clear hb
        go_wp2_with (first | (refine ldPt rfl rfl rfl k10 rfl ?_))
        refine (pput_c w15 h42.out).mono ?_
        rintro e w16 ⟨gb, hgb, rfl, hR, hb⟩
        replace k7 := k7.below hb
        replace k8 := k8.below hb
        replace m9 := m9.below hb
        replace k10 := k10.below hb
        replace k11 := k11.below hb
        replace k12 := k12.below hb
        replace hb0 := hb0.trans (hb.mono hb0.size)
        clear hb
        clear hgb
        replace hR := Lib.hid hR
        go_wp2_with fail
        refine (getq_c gb 0 32 (Fe.enc OX OY) (Fe.enc_r OX OY) w16 hR.out.lt (fun j hj => by rw [Nat.zero_add]; exact hR.out.cell j hj) (hCv.out.below hb0 hCv.out.lt) (Fe.okB_enc h42.out.cv)).mono ?_
        rintro e w17 ⟨X5, Y5, Z5, T5, rfl, hE5, hb⟩
        rw [(Fe.dec_enc h42.out.cv).1, (Fe.dec_enc h42.out.cv).2] at hE5
        replace k7 := k7.below hb
        replace k8 := k8.below hb
        replace m9 := m9.below hb
        replace k10 := k10.below hb
        replace k11 := k11.below hb
        replace k12 := k12.below hb
        replace hb0 := hb0.trans (hb.mono hb0.size)
        clear hb
        replace hE5 := Lib.hid hE5
        clear hR
        go_wp2_with (first | (refine stPt rfl rfl rfl rfl (Blk.new _ _ _) rfl rfl (by kernel_rfl) ?_; intro w18 k13 hgr hsz; have hb : Below w17.heap.size w17 w18 := ((Below.refl _ _).alloc (Nat.le_refl _) _).grown hgr (by rw [World.size_alloc]; omega) (fun k hk => by injection hk with hk; omega); replace k10 := k10.below hb; replace hb0 := hb0.trans (hb.mono hb0.size); clear hb hgr hsz) | (refine ldPtG (by kernel_rfl) rfl rfl k13 ?_) | (refine ldPtG (by kernel_rfl) rfl rfl k10 ?_))
        refine (pssameV hE5.out h42.out (same_refl _ _) _).mono ?_
        rintro e w19 ⟨rfl, hb⟩
        have hP := Lib.hid (hb0.trans (hb.mono hb0.size))
        clear hb hb0 k7 k8 m9 k10 k11 k12 k13
        go_wp2
        go_returns
        exact ⟨rfl, hP.out⟩
end Go.Proofs.YtpaldgajkhmhbaaDoor

namespace Go.Proofs.YtpaldgajkhmhbaaDoor
open Go.RowKit
set_option maxRecDepth 20000 in
set_option maxHeartbeats 4000000 in
theorem group_long (q1 : Option Addr) (n1 c1 : Nat) (q2 : Option Addr) (n2 c2 : Nat) (q3 : Option Addr) (n3 c3 : Nat) (h : (100 : Int) < n1 ∨ ((n1 : Int) ≤ 100 ∧ (100 : Int) < n2) ∨ ((n1 : Int) ≤ 100 ∧ (n2 : Int) ≤ 100 ∧ (100 : Int) < n3)) (w : World) (hCv : CvP w) : Calls Tryd.prog 7 #[.slice q1 n1 c1, .slice q2 n2 c2, .slice q3 n3 c3] w fun e w' => e = .returned (.bool true) ∧ Below w.heap.size w w' := by
  replace hCv := Lib.hid hCv
  replace h := Lib.hid h
  go_enter Tryd.func7, Tryd.ntmps7
  go_wp2_with fail
  refine (awake4_c w hCv.out).mono ?_
  rintro e w1 ⟨rfl, hb0⟩
  replace hb0 := Lib.hid hb0
  rcases h.out with h1 | ⟨h1, h2⟩ | ⟨h1, h2, h3⟩
  · clear h
    go_wp2
    go_returns
    exact ⟨rfl, hb0.out⟩
  · clear h
    go_wp2
    go_returns
    exact ⟨rfl, hb0.out⟩
  · clear h
    go_wp2
    go_returns
    exact ⟨rfl, hb0.out⟩
theorem group_any (q1 : Option Addr) (n1 c1 : Nat) (b1 : Nat → Int) (q2 : Option Addr) (n2 c2 : Nat) (b2 : Nat → Int) (q3 : Option Addr) (n3 c3 : Nat) (b3 : Nat → Int) (hr1 : ∀ j, 0 ≤ b1 j ∧ b1 j < 256) (hr2 : ∀ j, 0 ≤ b2 j ∧ b2 j < 256) (hr3 : ∀ j, 0 ≤ b3 j ∧ b3 j < 256) (w : World) (hB1 : BAt w q1 n1 b1) (hB2 : BAt w q2 n2 b2) (hB3 : BAt w q3 n3 b3) (hCv : CvP w) : Calls Tryd.prog 7 #[.slice q1 n1 c1, .slice q2 n2 c2, .slice q3 n3 c3] w fun e w' => e = .returned (.bool true) ∧ Below w.heap.size w w' := by
  by_cases h1 : n1 ≤ 100
  · by_cases h2 : n2 ≤ 100
    · by_cases h3 : n3 ≤ 100
      · exact group4_c q1 n1 c1 b1 q2 n2 c2 b2 q3 n3 c3 b3 hr1 hr2 hr3 h1 h2 h3 w hB1 hB2 hB3 hCv
      · exact group_long q1 n1 c1 q2 n2 c2 q3 n3 c3 (by omega) w hCv
    · exact group_long q1 n1 c1 q2 n2 c2 q3 n3 c3 (by omega) w hCv
  · exact group_long q1 n1 c1 q2 n2 c2 q3 n3 c3 (by omega) w hCv
end Go.Proofs.YtpaldgajkhmhbaaDoor

namespace Go.Proofs.YtpaldgajkhmhbaaDoor
open Go.ChangeShapes Go.WideShapes Go.ChangeAt Go.WideMaps Go.WideElems Go.RowKit
section
variable {H : Type} {enc : TypeId × Value → H} {W : World}
set_option maxRecDepth 100000 in
/-- an argument of bytes is opened -/
theorem open_bs {base : Nat} {r : Reach} {b0 : Nat} {sp : Nat → Bool} {v : Value} {d : DataW H} {ps : List MemPlace} (hv : Value.okWide Tryd.prog W r b0 22 v) (h : DataW.Trod enc Tryd.prog W base sp true 22 v d ps) :
    ∃ p n c b, v = .slice p n c ∧ (∀ j, 0 ≤ b j ∧ b j < 256) ∧ BAt W p n b := by
  obtain ⟨a1, len, cap, rfl⟩ := okWide_slice bs_underK hv
  obtain ⟨fuel, hf⟩ := h
  rcases open_ints bs_underK u8_under u8_cells hf with ⟨hcs, hx⟩ | ⟨a, len', cap', zs, hcs, _, hl, hm, hz, hx, hcell, hwz⟩
  · simp [Value.cells] at hcs
    obtain ⟨rfl, rfl, rfl⟩ := hcs
    exact ⟨none, 0, 0, fun _ => 0, rfl, fun _ => ⟨Int.le_refl _, show (0 : Int) < 256 by decide⟩, fun h => absurd h (by decide)⟩
  · simp [Value.cells] at hcs
    obtain ⟨rfl, rfl, rfl⟩ := hcs
    have hlz : len ≤ zs.length := by rw [hz]; split <;> omega
    refine ⟨some a, len, cap, fun j => zs.getD j 0, rfl, fun j => by
      have := range_u8 hwz j
      show 0 ≤ zs.getD j 0 ∧ zs.getD j 0 < 256
      rw [List.getD_eq_getElem?_getD]
      omega, fun hpos => ?_⟩
    obtain ⟨ab, ao, spot⟩ := a
    have hc1 := hcell 0 (by omega)
    have hspot : spot = none := by simpa [Addr.add] using World.cell?_spot hc1
    subst hspot
    refine ⟨ab, ao, rfl, ?_, fun j hj => ?_⟩
    · rcases Nat.lt_or_ge ab W.heap.size with h | h
      · exact h
      · rw [add_o] at hc1
        simp only [World.cell?, Array.getElem?_eq_none h] at hc1
        cases hc1
    · have := hcell j (by omega)
      rwa [add_o] at this
end
set_option maxRecDepth 100000 in
theorem edwardsGroup_lifted (os : Os) (started : os.Started) (H : Type) (enc : TypeId × Value → H) :
    ReturnsInHanded {} Tryd.checked os 7 .any (fun w args => (Rows.edwardsGroupSpec.pre enc Tryd.prog Tryd.f7 [] false w args ∧ laidMetH Tryd.prog laidE w) ∧ sizedMet enc Tryd.prog Tryd.f7 (OpenSpec.ofChange Rows.edwardsGroupSpec) false w args)
      (Rows.edwardsGroupSpec.post enc Tryd.prog Tryd.f7 false true false false) := by
  refine returnsInHanded_of_change_and (C := Tryd.checked) (X := fun w _ => laidMetH Tryd.prog laidE w) (fun _ _ _ hh h => h.of_heap hh) own_ started (by kernel_rfl) Tryd.func7
    (ChangeSpec.witness_shaped (enc := enc) (C := Tryd.checked) (os := os) (X := fun w _ => laidMetH Tryd.prog laidE w) false (World.doorLaid Tryd.prog 400 os) #[.slice none 0 0, .slice none 0 0, .slice none 0 0] 8 rfl (World.shaped_of_RefB (by kernel_rfl) (by kernel_rfl)) (by kernel_rfl) (by kernel_rfl) (by kernel_rfl) (door_met os _)) ?_
  intro W base args ds gs before hval0 hW _ _ hL _
  have hval : ∀ (j : Nat) t v, Tryd.f7.params[j]? = some t → args[j]? = some v → Value.okWide Tryd.prog W .any base t v := hval0
  have hW' := hW
  obtain ⟨p, q, hA0, hV, rfl, hfz, hnd⟩ := hW
  have hA : DataW.TrodAll enc Tryd.prog W 0 (fun _ => true) true Tryd.f7.params.toList args.toList ds p := hA0
  rw [Tryd.params7] at hA hval
  obtain ⟨v0, v1, v2, d0, d1, d2, p0, p1, p2', rfl, rfl, rfl, h0, h1, h2⟩ := trodAll_three hA
  obtain ⟨rfl, rfl⟩ := trodVars_none hV
  have hv0 := hval 0 22 v0 rfl rfl
  have hv1 := hval 1 22 v1 rfl rfl
  have hv2 := hval 2 22 v2 rfl rfl
  clear hA0 hval0
  simp only [List.append_nil] at hW'
  have hCv := of_laid hL
  have hlt : ∀ x ∈ p0 ++ p1 ++ p2', x.block < W.heap.size := fun x hx => hW'.lt x hx
  obtain ⟨q1, n1, c1, b1, rfl, hr1, hB1⟩ := open_bs hv0 h0
  obtain ⟨q2, n2, c2, b2, rfl, hr2, hB2⟩ := open_bs hv1 h1
  obtain ⟨q3, n3, c3, b3, rfl, hr3, hB3⟩ := open_bs hv2 h2
  clear hv0 hv1 hv2
  refine (group_any q1 n1 c1 b1 q2 n2 c2 b2 q3 n3 c3 b3 hr1 hr2 hr3 W hB1 hB2 hB3 hCv).mono fun e W' ⟨he, hb⟩ => ?_
  subst he
  exact ⟨_, rfl, post_of_below (pa := p0 ++ p1 ++ p2') (pv := []) hW' (fun _ _ _ => trodAll_mk1 (shut_bool bool_under true))
    (fun sp hsp => ⟨p0, p1 ++ p2', WideElems.Trod_stays (by kernel_rfl) (by kernel_rfl) (of_decide_eq_true (by kernel_rfl)) h0 (fun x hx => hb.same (hlt x (by simp [hx]))) (fun x hx => hsp x (by simp [hx])),
      ⟨p1, p2', WideElems.Trod_stays (by kernel_rfl) (by kernel_rfl) (of_decide_eq_true (by kernel_rfl)) h1 (fun x hx => hb.same (hlt x (by simp [hx]))) (fun x hx => hsp x (by simp [hx])),
        ⟨p2', [], WideElems.Trod_stays (by kernel_rfl) (by kernel_rfl) (of_decide_eq_true (by kernel_rfl)) h2 (fun x hx => hb.same (hlt x (by simp [hx]))) (fun x hx => hsp x (by simp [hx])), rfl, by simp⟩, rfl⟩, by simp⟩)
    (fun _ _ => rfl) (by simp) hb
    (ok_one (by kernel_rfl) rfl (okWide_bool_mk bool_under true))⟩
theorem edwardsGroup_row : Rows.EdwardsGroupSaid :=
  OpenClaim.holds_of_wide 7 Tryd.f7 rfl rfl rfl rfl rfl rfl rfl ⟨rfl, rfl, rfl, rfl, rfl⟩ rfl rfl rfl rfl rfl (by kernel_rfl) Tryd.func7 (by kernel_rfl)
    (of_decide_eq_true (by kernel_rfl)) (by unfold Func.isWrapper; first | (rw [if_pos (by decide +kernel)]; kernel_rfl) | (rw [if_neg (by decide +kernel)]; exact ⟨rfl, rfl⟩))
    (fun os started H enc _ => edwardsGroup_lifted os started H enc)
theorem edwardsGroup_holds : Rows.EdwardsGroupCardSaid :=
  Claim7.holds_tied_plain_at .later [] [.data, .data] true (true, "6e129b5b755843fca1c9938d877822f84d8e150055241bfa7f0a4cfcf7dc7d77") false
    edwardsGroup_row (fun _ h => by cases h) (by kernel_rfl) (fun _ h => by cases h) edwardsGroup_row_tie rfl ⟨rfl, rfl⟩ (by kernel_rfl) rfl
    (fun f fn hf hfn => by
      obtain rfl : f = 7 := Option.some.inj ((show Tryd.prog.funcNamed "buttress/buttresslaw04.EdwardsGroup" = some 7 by kernel_rfl).symm.trans hf) |>.symm
      obtain rfl : fn = Tryd.f7 := (Option.some.inj (Tryd.func7.symm.trans hfn)).symm
      exact ⟨by kernel_rfl, fun j t ht => by
        rw [Tryd.params7] at ht
        have hm : t ∈ [22] := by simpa using Array.mem_of_getElem? ht
        have hall : ([22].all fun u => !Tryd.prog.wantsStandIn u) = true := by kernel_rfl
        exact (show Tryd.prog.wantsStandIn t = false by simpa using List.all_eq_true.1 hall t hm)⟩)
    (by kernel_rfl)
end Go.Proofs.YtpaldgajkhmhbaaDoor
