/- The walks of the field's first functions: what each call answers, and that memory below is as it was. -/
import Derived.Test.YtigcobcpfmnhoaaDoorRows
import Derived.Test.YtigcobcpfmnhoaaDoorFe
import Derived.Test.YtigcobcpfmnhoaaDoorMem
import Derived.WalkKit
import Derived.WalkSpells
import Derived.WalkLawsBesides
import Derived.RegionTactic
import Derived.ChangeAlike
import Derived.BigRegion
import Derived.Handy
import Derived.Lib.Hide
namespace Go.Proofs.YtigcobcpfmnhoaaDoor
open Go.RowKit

/-- an element is answered; what lay below stays -/
def Post5 (x : Fe.E) (w : World) (e : Ending) (w' : World) : Prop :=
  ∃ r0 r1 r2 r3 r4 : Int, e = .returned (.agg #[.int .u64 r0, .int .u64 r1, .int .u64 r2, .int .u64 r3, .int .u64 r4]) ∧ Fe.E.mk r0 r1 r2 r3 r4 = x ∧ Below w.heap.size w w'

theorem Post5.mk' {x : Fe.E} {w w' : World} {r0 r1 r2 r3 r4 : Int} (h : Fe.E.mk r0 r1 r2 r3 r4 = x) (hb : Below w.heap.size w w') :
    Post5 x w (.returned (.agg #[.int .u64 r0, .int .u64 r1, .int .u64 r2, .int .u64 r3, .int .u64 r4])) w' := ⟨r0, r1, r2, r3, r4, rfl, h, hb⟩

theorem and51 {a : Int} (h : 0 ≤ a ∧ a ≤ 18446744073709551615) : bits .and .u64 a 2251799813685247 = a % 2251799813685248 := by
  rw [u64_and a _ h.1 (by omega) (by decide) (by decide)]
  have e : (2251799813685247 : Int).toNat = 2251799813685247 := rfl
  rw [e, nat_mask51]
  omega
theorem wr_eq (x : Int) : IntKind.u64.wrap x = Fe.wr x := by rw [IntKind.wrap_u64]; rfl

theorem carried_eq {a0 a1 a2 a3 a4 : Int} (h : Fe.W ⟨a0, a1, a2, a3, a4⟩) :
    Fe.E.mk (IntKind.u64.wrap (bits .and .u64 a0 2251799813685247 + IntKind.u64.wrap (19 * (a4 / 2251799813685248)))) (IntKind.u64.wrap (bits .and .u64 a1 2251799813685247 + a0 / 2251799813685248))
      (IntKind.u64.wrap (bits .and .u64 a2 2251799813685247 + a1 / 2251799813685248)) (IntKind.u64.wrap (bits .and .u64 a3 2251799813685247 + a2 / 2251799813685248)) (IntKind.u64.wrap (bits .and .u64 a4 2251799813685247 + a3 / 2251799813685248)) = Fe.carr ⟨a0, a1, a2, a3, a4⟩ := by
  obtain ⟨h0, h1, h2, h3, h4⟩ := h
  simp only at h0 h1 h2 h3 h4
  rw [and51 h0, and51 h1, and51 h2, and51 h3, and51 h4]
  simp only [Fe.carr, wr_eq, Fe.E.mk.injEq, Fe.wr]
  omega

set_option maxRecDepth 20000 in
set_option maxHeartbeats 400000 in
theorem carried_c (a0 a1 a2 a3 a4 : Int) (hw : Fe.W ⟨a0, a1, a2, a3, a4⟩) (w : World) :
    Calls Tryd.prog 70 #[.agg #[.int .u64 a0, .int .u64 a1, .int .u64 a2, .int .u64 a3, .int .u64 a4]] w (Post5 (Fe.carr ⟨a0, a1, a2, a3, a4⟩) w) := by
  have he := Lib.hid (carried_eq hw)
  clear hw
  go_enter Tryd.func70, Tryd.ntmps70
  go_wp2
  refine wp_loop_rounds 5 ?_
  rw [rounds_succ]
  go_wp2
  go_region
  go_wp2
  rw [rounds_succ]
  go_wp2
  go_region
  go_wp2
  rw [rounds_succ]
  go_wp2
  go_region
  go_wp2
  rw [rounds_succ]
  go_wp2
  go_region
  go_wp2
  rw [rounds_succ]
  go_wp2
  go_returns
  exact Post5.mk' he.out (by go_grown)

set_option maxRecDepth 20000 in
set_option maxHeartbeats 400000 in
theorem one_c (w : World) : Calls Tryd.prog 57 #[] w (Post5 ⟨1, 0, 0, 0, 0⟩ w) := by
  go_enter Tryd.func57, Tryd.ntmps57
  go_wp2
  go_returns
  exact Post5.mk' rfl (by go_grown)

set_option maxRecDepth 20000 in
set_option maxHeartbeats 400000 in
theorem add_c (a0 a1 a2 a3 a4 b0 b1 b2 b3 b4 : Int) (w : World) :
    Calls Tryd.prog 58 #[.agg #[.int .u64 a0, .int .u64 a1, .int .u64 a2, .int .u64 a3, .int .u64 a4], .agg #[.int .u64 b0, .int .u64 b1, .int .u64 b2, .int .u64 b3, .int .u64 b4]] w (Post5 (Fe.addE ⟨a0, a1, a2, a3, a4⟩ ⟨b0, b1, b2, b3, b4⟩) w) := by
  go_enter Tryd.func58, Tryd.ntmps58
  go_wp2
  refine wp_loop_rounds 6 ?_
  rw [rounds_succ]
  go_wp2
  go_region
  go_wp2
  rw [rounds_succ]
  go_wp2
  go_region
  go_wp2
  rw [rounds_succ]
  go_wp2
  go_region
  go_wp2
  rw [rounds_succ]
  go_wp2
  go_region
  go_wp2
  rw [rounds_succ]
  go_wp2
  go_region
  go_wp2
  rw [rounds_succ]
  go_wp2_with fail
  refine (carried_c _ _ _ _ _ (by simp only [wr_eq]; exact Fe.wr_w _ _ _ _ _) _).mono ?_
  rintro e w1 ⟨r0, r1, r2, r3, r4, rfl, hr, hb⟩
  have hr' := Lib.hid hr
  clear hr
  obtain ⟨hc, hf⟩ := bcell hb
  go_wp2
  refine bodyPost_ret (v := .agg #[.int .u64 r0, .int .u64 r1, .int .u64 r2, .int .u64 r3, .int .u64 r4]) (by simp [results, Tryd.results58, go_sem, hc]) rfl ?_
  refine Post5.mk' ?_ ?_
  · rw [hr'.out]; simp only [wr_eq]; rfl
  clear hc hf hr'
  go_grown
  exact below_after (by go_grown) hb

theorem mul64_hi {a b : Int} (ha : 0 ≤ a ∧ a ≤ 18446744073709551615) (hb : 0 ≤ b ∧ b ≤ 18446744073709551615) :
    (IntKind.u64.wrap
            (IntKind.u64.wrap
                (IntKind.u64.wrap (a / 4294967296 * (b / 4294967296)) +
                  IntKind.u64.wrap
                      (IntKind.u64.wrap (a / 4294967296 * bits BinOp.and IntKind.u64 b 4294967295) +
                        IntKind.u64.wrap
                            (bits BinOp.and IntKind.u64 a 4294967295 * bits BinOp.and IntKind.u64 b 4294967295) /
                          4294967296) /
                    4294967296) +
              IntKind.u64.wrap
                  (bits BinOp.and IntKind.u64
                      (IntKind.u64.wrap
                        (IntKind.u64.wrap (a / 4294967296 * bits BinOp.and IntKind.u64 b 4294967295) +
                          IntKind.u64.wrap
                              (bits BinOp.and IntKind.u64 a 4294967295 * bits BinOp.and IntKind.u64 b 4294967295) /
                            4294967296))
                      4294967295 +
                    IntKind.u64.wrap (bits BinOp.and IntKind.u64 a 4294967295 * (b / 4294967296))) /
                4294967296)) = a * b / 18446744073709551616 := by
  have m : ∀ {x : Int}, 0 ≤ x ∧ x ≤ 18446744073709551615 → bits .and .u64 x 4294967295 = x % 4294967296 := by
    intro x h
    rw [u64_and x _ h.1 (by omega) (by decide) (by decide)]
    have e : (4294967295 : Int).toNat = 4294967295 := rfl
    rw [e, nat_mask32]
    omega
  rw [m ha, m hb, m (by rw [IntKind.wrap_u64]; omega)]
  simp only [IntKind.wrap_u64]
  exact mul64_arith a b ha.1 (by omega) hb.1 (by omega)

set_option maxRecDepth 20000 in
set_option maxHeartbeats 400000 in
theorem mul64_c (a b : Int) (ha : 0 ≤ a ∧ a ≤ 18446744073709551615) (hb : 0 ≤ b ∧ b ≤ 18446744073709551615) (w : World) :
    Calls Tryd.prog 69 #[.int .u64 a, .int .u64 b] w fun e w' => e = .returned (.tuple #[.int .u64 (a * b / 18446744073709551616), .int .u64 (a * b % 18446744073709551616)]) ∧ w = w' := by
  have he := Lib.hid (mul64_hi ha hb)
  clear ha hb
  go_enter Tryd.func69, Tryd.ntmps69
  go_wp2
  go_ret2
  refine ⟨?_, rfl⟩
  rw [he.out, IntKind.wrap_u64]
  rfl

/-- the lowest 51 bits of two words, and what is above (64 bits of it) -/
theorem parts_hi {hi lo : Int} (_hh : 0 ≤ hi ∧ hi ≤ 18446744073709551615) (hl : 0 ≤ lo ∧ lo ≤ 18446744073709551615) :
    bits .or .u64 (IntKind.u64.wrap (hi * 8192)) (lo / 2251799813685248) = Fe.wr ((hi * 18446744073709551616 + lo) / 2251799813685248) := by
  rw [u64_or _ _ (by rw [IntKind.wrap_u64]; omega) (by rw [IntKind.wrap_u64]; omega) (by omega) (by omega)]
  rw [nat_join 13 _ _ (by rw [IntKind.wrap_u64]; omega) (by omega)]
  rw [IntKind.wrap_u64]
  unfold Fe.wr
  omega

set_option maxRecDepth 20000 in
set_option maxHeartbeats 400000 in
theorem parts_c (hi lo : Int) (hh : 0 ≤ hi ∧ hi ≤ 18446744073709551615) (hl : 0 ≤ lo ∧ lo ≤ 18446744073709551615) (w : World) :
    Calls Tryd.prog 68 #[.agg #[.int .u64 hi, .int .u64 lo]] w fun e w' =>
      e = .returned (.tuple #[.int .u64 (lo % 2251799813685248), .int .u64 (Fe.wr ((hi * 18446744073709551616 + lo) / 2251799813685248))]) ∧ w' = (w.alloc (.cells #[.int .u64 hi, .int .u64 lo] 96)).drew := by
  have h1 := Lib.hid (parts_hi hh hl)
  have h2 := Lib.hid (and51 hl)
  clear hh hl
  go_enter Tryd.func68, Tryd.ntmps68
  go_wp2
  go_region
  go_wp2
  go_ret2
  refine ⟨?_, rfl⟩
  rw [h1.out, h2.out]
  rfl

end Go.Proofs.YtigcobcpfmnhoaaDoor
