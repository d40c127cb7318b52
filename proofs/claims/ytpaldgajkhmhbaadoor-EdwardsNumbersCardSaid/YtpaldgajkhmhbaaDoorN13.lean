/- Root of the reference, said of numbers. -/
import Derived.Test.YtpaldgajkhmhbaaDoorN12
import Derived.Test.YtpaldgajkhmhbaaDoorRu
namespace Go.Proofs.YtpaldgajkhmhbaaDoor
open Go.RowKit
theorem dg_zero : Dg.dg 0 = fun _ => 0 := by funext j; simp [Dg.dg]
theorem up_P (k n : Nat) (hk : k < 65536) (hn : Fe.p + (k : Int) - 65517 = (n : Int)) : av (Dg.up pd 0 k) = av (Dg.dg n) := av_congr (Dg.dig_of (P_di k hk).1 ((P_di k hk).2.trans hn))
theorem eql_zero {U : Nat} (hU : U < Fe.P) (b : Bool) (hb : decide (U = 0) = b) (w : World) : (binOp .eql 33 (.agg (av (Dg.dg U))) (.agg (av fun _ => 0))).run Tryd.prog w = .ok (.bool b) w := by
  have h := run_eql_N (Dg.dg U) (Dg.dg 0) w
  rw [eqN_dec hU (by unfold Fe.P; decide), hb, dg_zero] at h
  exact h
theorem neq_n {x y : Nat} (hx : x < Fe.P) (hy : y < Fe.P) (b : Bool) (hb : (!decide (x = y)) = b) (w : World) : (binOp .neq 33 (.agg (av (Dg.dg x))) (.agg (av (Dg.dg y)))).run Tryd.prog w = .ok (.bool b) w := by
  have h := run_neq_N (Dg.dg x) (Dg.dg y) w
  rw [eqN_dec hx hy, hb] at h
  exact h
set_option maxRecDepth 10000 in
theorem rRoot_c (U V : Nat) (hU : U < Fe.P) (hV : V < Fe.P) (w : World) : Calls Tryd.prog 61 #[.agg (av (Dg.dg U)), .agg (av (Dg.dg V))] w (PostR2 (Dg.dg (Fe.rN U V)) (Fe.bN U V) w) := by
  by_cases hU0 : U = 0
  · rw [hU0, Fe.rN_0.1, Fe.rN_0.2, dg_zero, ← dg_zero]
    have h := rRoot_u (Dg.dg 0) (Dg.dg V) (eql_zero (U := 0) (by unfold Fe.P; decide) true rfl) trivial w
    rw [← dg_zero] at h
    exact h
  by_cases hV0 : V = 0
  · have hb := Fe.bN_0 hU hU0
    have hr : Fe.rN U 0 = 0 := by
      unfold Fe.bN at hb
      simp only [Bool.or_eq_false_iff, decide_eq_false_iff_not] at hb
      unfold Fe.rN
      rw [if_neg hb.1, if_neg hb.2]
    rw [hV0, hb, hr]
    have h := rRoot_v (Dg.dg U) (Dg.dg 0) (eql_zero hU false (decide_eq_false hU0)) (eql_zero (U := 0) (by unfold Fe.P; decide) true rfl) w
    rw [← dg_zero] at h
    exact h
  have hw := Fe.wN_lt U V
  have hw0 := Fe.w_ne hU hV hU0 hV0
  have hbt := Fe.bN_t hU hV hU0 hV0
  have hk1 := Fe.k1_iff hw hw0
  have hk2 := Fe.k2_iff hw hw0 Fe.k_sq
  have hre := fun rr (h1 : rr < Fe.P) (h2 : rr * rr % Fe.P = Fe.wN U V) (hb : Fe.bN U V = true) => Fe.root_even hU hV hV0 hb h1 h2
  have cinv := fun w => rInv_c V hV w
  have cw := fun w => rMul_c U (V ^ (Fe.P - 2) % Fe.P) hU (Nat.mod_lt _ Fe.P_pos) w
  rw [show U * (V ^ (Fe.P - 2) % Fe.P) % Fe.P = Fe.wN U V from rfl] at cw
  generalize Fe.wN U V = ww at *
  have ea := eql_zero hU false (decide_eq_false hU0)
  have eb := eql_zero hV false (decide_eq_false hV0)
  have l3 : Fe.P + 3 < 2 ^ 256 := by unfold Fe.P; decide
  have l1 : Fe.P - 1 < 2 ^ 256 := by unfold Fe.P; decide
  have le8 : Fe.e8 < 2 ^ 256 := by unfold Fe.e8 Fe.P; decide
  have le4 : Fe.e4 < 2 ^ 256 := by unfold Fe.e4 Fe.P; decide
  have a3 : av (Dg.up pd 0 65520) = av (Dg.dg (Fe.P + 3)) := up_P 65520 (Fe.P + 3) (by decide) (by unfold Fe.p Fe.P; rfl)
  have a1 : av (Dg.up pd 0 65516) = av (Dg.dg (Fe.P - 1)) := up_P 65516 (Fe.P - 1) (by decide) (by unfold Fe.p Fe.P; rfl)
  have h1 : ∀ w, Calls Tryd.prog 88 #[.agg (av (Dg.up pd 0 65520))] w (PostN (Dg.dg ((Fe.P + 3) / 2)) w) := fun w => by rw [a3]; exact rHalf_c _ l3 w
  have h2 := fun w => rHalf_c ((Fe.P + 3) / 2) (by omega) w
  have h3 := fun w => rHalf_c ((Fe.P + 3) / 2 / 2) (by omega) w
  rw [show (Fe.P + 3) / 2 / 2 / 2 = Fe.e8 from rfl] at h3
  have cr := fun w => rPow_c ww Fe.e8 hw le8 w
  have lr : ww ^ Fe.e8 % Fe.P < Fe.P := Nat.mod_lt _ Fe.P_pos
  generalize hr0 : ww ^ Fe.e8 % Fe.P = r0 at *
  have cq := fun w => rMul_c r0 r0 lr lr w
  have hfN : ∀ rr, rr < Fe.P → (if decide (rr % 2 = 1) then Dg.dg ((0 + (Fe.P - rr)) % Fe.P) else Dg.dg rr) = Dg.dg (Fe.fN rr) := fun rr _ => by
    unfold Fe.fN
    by_cases h : rr % 2 = 1
    · rw [decide_eq_true h, if_pos rfl, if_pos h, Nat.zero_add]
    rw [decide_eq_false h, if_neg (by decide), if_neg h]
  have csn := fun rr (h : rr < Fe.P) w => rSub_c 0 rr (by unfold Fe.P; decide) h w
  rw [dg_zero] at csn
  by_cases c1 : Fe.tN ww = 1
  · have e1 := neq_n (Nat.mod_lt (r0 * r0) Fe.P_pos) hw false (by rw [decide_eq_true (hk1.2 c1)]; rfl)
    have hb : Fe.bN U V = true := by rw [hbt, decide_eq_true c1]; rfl
    have hfin := hre r0 lr (hk1.2 c1) hb
    have h := rRoot_a _ _ _ _ pd _ _ _ _ _ (Dg.dg ((0 + (Fe.P - r0)) % Fe.P)) (decide (r0 % 2 = 1)) ea eb rfl cinv cw p_c h1 h2 h3 cr cq e1 (fun w => rOdd_c r0 w) (fun _ w => csn r0 lr w) w
    rw [hfN r0 lr, hfin] at h
    rw [hb]
    exact h
  have e1 := neq_n (Nat.mod_lt (r0 * r0) Fe.P_pos) hw true (by rw [decide_eq_false (fun h => c1 (hk1.1 h))]; rfl)
  have cs2 := fun w => rSmall_c 2 (by decide) w
  have g1 : ∀ w, Calls Tryd.prog 88 #[.agg (av (Dg.up pd 0 65516))] w (PostN (Dg.dg ((Fe.P - 1) / 2)) w) := fun w => by rw [a1]; exact rHalf_c _ l1 w
  have g2 := fun w => rHalf_c ((Fe.P - 1) / 2) (by omega) w
  rw [show (Fe.P - 1) / 2 / 2 = Fe.e4 from rfl] at g2
  have ck := fun w => rPow_c 2 Fe.e4 (by unfold Fe.P; decide) le4 w
  have lk : 2 ^ Fe.e4 % Fe.P < Fe.P := Nat.mod_lt _ Fe.P_pos
  generalize 2 ^ Fe.e4 % Fe.P = kk at *
  have ct := fun w => rMul_c r0 kk lr lk w
  have lr1 : r0 * kk % Fe.P < Fe.P := Nat.mod_lt _ Fe.P_pos
  generalize r0 * kk % Fe.P = r1 at *
  have cq1 := fun w => rMul_c r1 r1 lr1 lr1 w
  by_cases c2 : Fe.tN ww = Fe.P - 1
  · have e2 := neq_n (Nat.mod_lt (r1 * r1) Fe.P_pos) hw false (by rw [decide_eq_true (hk2.2 c2)]; rfl)
    have hb : Fe.bN U V = true := by rw [hbt, decide_eq_true c2, Bool.or_true]
    have hfin := hre r1 lr1 (hk2.2 c2) hb
    have h := rRoot_d _ _ _ _ pd _ _ _ _ _ _ _ _ _ _ _ (Dg.dg ((0 + (Fe.P - r1)) % Fe.P)) (decide (r1 % 2 = 1)) ea eb rfl cinv cw p_c h1 h2 h3 cr cq e1 cs2 g1 g2 ck ct cq1 e2 (fun w => rOdd_c r1 w) (fun _ w => csn r1 lr1 w) w
    rw [hfN r1 lr1, hfin] at h
    rw [hb]
    exact h
  have e2 := neq_n (Nat.mod_lt (r1 * r1) Fe.P_pos) hw true (by rw [decide_eq_false (fun h => c2 (hk2.1 h))]; rfl)
  have hb : Fe.bN U V = false := by rw [hbt, decide_eq_false c1, decide_eq_false c2]; rfl
  have hr : Fe.rN U V = 0 := by
    have hb2 := hb
    unfold Fe.bN at hb2
    simp only [Bool.or_eq_false_iff, decide_eq_false_iff_not] at hb2
    unfold Fe.rN
    rw [if_neg hb2.1, if_neg hb2.2]
  rw [hb, hr, dg_zero]
  exact rRoot_b _ _ _ _ pd _ _ _ _ _ _ _ _ _ _ _ ea eb rfl cinv cw p_c h1 h2 h3 cr cq e1 cs2 g1 g2 ck ct cq1 e2 w
end Go.Proofs.YtpaldgajkhmhbaaDoor
