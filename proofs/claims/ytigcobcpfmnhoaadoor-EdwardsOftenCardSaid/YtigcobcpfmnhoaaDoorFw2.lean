/- The walks of the field's product, its parts, and the difference. -/
import Derived.Test.YtigcobcpfmnhoaaDoorFw
import Derived.StillTailTactics
import Derived.Deep.RegionWith
namespace Go.Proofs.YtigcobcpfmnhoaaDoor
open Go.RowKit

theorem run_add64_at (x y : Int) (hx : 0 ≤ x) (hy : 0 ≤ y) (w : World) :
    (callFunc 96 #[.int .u64 x, .int .u64 y, .int .u64 0]).run Tryd.prog w = .ok (.value (.tuple #[.int .u64 ((x + y + 0) % 18446744073709551616), .int .u64 ((x + y + 0) / 18446744073709551616)])) w := by
  rw [run_callFunc_extern (e := add64Entry) Tryd.func96 (by kernel_rfl) (by kernel_rfl) (by kernel_rfl) (by kernel_rfl), run_add64 x y 0 hx hy (by decide) (by decide)]
  rfl

/-- two words' number, and a product more -/
def tot (T x y : Int) : Int := (T + x * y) % 340282366920938463463374607431768211456
def HiW (T : Int) : Int := T / 18446744073709551616
def LoW (T : Int) : Int := T % 18446744073709551616
def T128 (T : Int) : Prop := 0 ≤ T ∧ T < 340282366920938463463374607431768211456
def U64 (x : Int) : Prop := 0 ≤ x ∧ x ≤ 18446744073709551615
theorem t0 : T128 0 := by unfold T128; omega
theorem h0 : (0 : Int) = HiW 0 := by unfold HiW; omega
theorem l0 : (0 : Int) = LoW 0 := by unfold LoW; omega
theorem tot_t (T x y : Int) : T128 (tot T x y) := by unfold T128 tot; omega
theorem hadd_eq {T x y : Int} (_h : T128 T) : (LoW T + x * y) % 18446744073709551616 = LoW (tot T x y) ∧
    IntKind.u64.wrap (HiW T + IntKind.u64.wrap (x * y / 18446744073709551616 + (LoW T + x * y % 18446744073709551616) / 18446744073709551616)) = HiW (tot T x y) := by
  simp only [IntKind.wrap_u64]
  unfold LoW HiW tot
  generalize x * y = z
  omega

set_option maxRecDepth 20000 in
set_option maxHeartbeats 400000 in
theorem hadd_c (b : Nat) (T h l x y : Int) (hT : T128 T) (hh : h = HiW T) (hl' : l = LoW T) (hx : U64 x) (hy : U64 y) (w : World)
    (c0 : w.cell? ⟨b, 0, none⟩ = some (.int .u64 h)) (c1 : w.cell? ⟨b, 1, none⟩ = some (.int .u64 l)) (f0 : w.frozen? ⟨b, 0, none⟩ = false) (f1 : w.frozen? ⟨b, 1, none⟩ = false) :
    Calls Tryd.prog 84 #[.pointer (some ⟨b, 0, none⟩), .int .u64 x, .int .u64 y] w fun e w' => e = .returned (.tuple #[]) ∧
      w' = (w.setCell ⟨b, 1, none⟩ (.int .u64 (LoW (tot T x y)))).setCell ⟨b, 0, none⟩ (.int .u64 (HiW (tot T x y))) := by
  subst hh hl'
  have hl : 0 ≤ LoW T := by unfold LoW; omega
  obtain ⟨e1, e2⟩ := hadd_eq (x := x) (y := y) hT
  have e1 := Lib.hid e1
  have e2 := Lib.hid e2
  clear hT
  go_enter Tryd.func84, Tryd.ntmps84
  go_wp2_with fail
  refine (mul64_c _ _ hx hy _).mono ?_
  rintro e w1 ⟨rfl, rfl⟩
  have ha := run_add64_at (LoW T) (x * y % 18446744073709551616) hl (by omega)
  clear hl hx hy
  go_wp2
  go_returns
  exact ⟨rfl, by first | rfl | rw [e1.out, e2.out]⟩

def tot5 (x0 y0 x1 y1 x2 y2 x3 y3 x4 y4 : Int) : Int := (x0 * y0 + x1 * y1 + x2 * y2 + x3 * y3 + x4 * y4) % 340282366920938463463374607431768211456
theorem tot5_eq (x0 y0 x1 y1 x2 y2 x3 y3 x4 y4 : Int) : tot (tot (tot (tot (tot 0 x0 y0) x1 y1) x2 y2) x3 y3) x4 y4 = tot5 x0 y0 x1 y1 x2 y2 x3 y3 x4 y4 := by
  unfold tot tot5
  omega
theorem tot5_t (x0 y0 x1 y1 x2 y2 x3 y3 x4 y4 : Int) : T128 (tot5 x0 y0 x1 y1 x2 y2 x3 y3 x4 y4) := by unfold T128 tot5; omega

/-- two words of a number are answered; what lay below stays -/
def PostT (T : Int) (w : World) (e : Ending) (w' : World) : Prop :=
  ∃ hi lo : Int, e = .returned (.agg #[.int .u64 hi, .int .u64 lo]) ∧ (hi = HiW T ∧ lo = LoW T) ∧ Below w.heap.size w w'
theorem PostT.mk' {T T' : Int} {w w' : World} (h : T' = T) (hb : Below w.heap.size w w') : PostT T w (.returned (.agg #[.int .u64 (HiW T'), .int .u64 (LoW T')])) w' := ⟨_, _, rfl, ⟨by rw [h], by rw [h]⟩, hb⟩

set_option maxRecDepth 20000 in
set_option maxHeartbeats 400000 in
theorem products_c (b : Nat) (x0 y0 x1 y1 x2 y2 x3 y3 x4 y4 : Int) (hx0 : U64 x0) (hy0 : U64 y0) (hx1 : U64 x1) (hy1 : U64 y1) (hx2 : U64 x2) (hy2 : U64 y2) (hx3 : U64 x3) (hy3 : U64 y3) (hx4 : U64 x4) (hy4 : U64 y4) (w : World) (hb : b < w.heap.size)
    (c0 : w.cell? ⟨b, 0, none⟩ = some (.int .u64 x0)) (c1 : w.cell? ⟨b, 1, none⟩ = some (.int .u64 y0)) (c2 : w.cell? ⟨b, 2, none⟩ = some (.int .u64 x1)) (c3 : w.cell? ⟨b, 3, none⟩ = some (.int .u64 y1)) (c4 : w.cell? ⟨b, 4, none⟩ = some (.int .u64 x2))
    (c5 : w.cell? ⟨b, 5, none⟩ = some (.int .u64 y2)) (c6 : w.cell? ⟨b, 6, none⟩ = some (.int .u64 x3)) (c7 : w.cell? ⟨b, 7, none⟩ = some (.int .u64 y3)) (c8 : w.cell? ⟨b, 8, none⟩ = some (.int .u64 x4)) (c9 : w.cell? ⟨b, 9, none⟩ = some (.int .u64 y4)) :
    Calls Tryd.prog 67 #[.slice (some ⟨b, 0, none⟩) 10 10] w (PostT (tot5 x0 y0 x1 y1 x2 y2 x3 y3 x4 y4) w) := by
  go_enter Tryd.func67, Tryd.ntmps67
  go_wp2
  have s1 : IntKind.i64.wrap 1 = 1 := by decide
  have s3 : IntKind.i64.wrap 3 = 3 := by decide
  have s5 : IntKind.i64.wrap 5 = 5 := by decide
  have s7 : IntKind.i64.wrap 7 = 7 := by decide
  have s9 : IntKind.i64.wrap 9 = 9 := by decide
  refine wp_loop_rounds 6 ?_
  rw [rounds_succ]
  go_wp2
  refine wp_region_still_tail 10 (by kernel_rfl) (by kernel_rfl) ?_
  change wpStill _ _ (World.drew _) (fun a' => wpList _ _ _ _ a' (World.drew _)) _ _
  simp only [List.take_succ_cons, List.take_zero, List.drop_succ_cons, List.drop_zero]
  repeat still_step
  refine wpStill_nil ?_
  go_wp2_with fail
  refine (hadd_c _ 0 _ _ x0 y0 t0 h0 l0 hx0 hy0 _ ?_ ?_ ?_ ?_).mono ?_
  · simp [go_sem]
  · simp [go_sem]
  · simp [go_sem]
  · simp [go_sem]
  rintro e w1 ⟨rfl, rfl⟩
  go_wp2
  rw [rounds_succ]
  go_wp2
  refine wp_region_still_tail 10 (by kernel_rfl) (by kernel_rfl) ?_
  change wpStill _ _ (World.drew _) (fun a' => wpList _ _ _ _ a' (World.drew _)) _ _
  simp only [List.take_succ_cons, List.take_zero, List.drop_succ_cons, List.drop_zero]
  repeat still_step
  refine wpStill_nil ?_
  go_wp2_with fail
  refine (hadd_c _ (tot 0 x0 y0) _ _ x1 y1 (tot_t _ _ _) rfl rfl hx1 hy1 _ ?_ ?_ ?_ ?_).mono ?_
  · simp [go_sem]
  · simp [go_sem]
  · simp [go_sem]
  · simp [go_sem]
  rintro e w1 ⟨rfl, rfl⟩
  go_wp2
  rw [rounds_succ]
  go_wp2
  refine wp_region_still_tail 10 (by kernel_rfl) (by kernel_rfl) ?_
  change wpStill _ _ (World.drew _) (fun a' => wpList _ _ _ _ a' (World.drew _)) _ _
  simp only [List.take_succ_cons, List.take_zero, List.drop_succ_cons, List.drop_zero]
  repeat still_step
  refine wpStill_nil ?_
  go_wp2_with fail
  refine (hadd_c _ (tot (tot 0 x0 y0) x1 y1) _ _ x2 y2 (tot_t _ _ _) rfl rfl hx2 hy2 _ ?_ ?_ ?_ ?_).mono ?_
  · simp [go_sem]
  · simp [go_sem]
  · simp [go_sem]
  · simp [go_sem]
  rintro e w1 ⟨rfl, rfl⟩
  go_wp2
  rw [rounds_succ]
  go_wp2
  refine wp_region_still_tail 10 (by kernel_rfl) (by kernel_rfl) ?_
  change wpStill _ _ (World.drew _) (fun a' => wpList _ _ _ _ a' (World.drew _)) _ _
  simp only [List.take_succ_cons, List.take_zero, List.drop_succ_cons, List.drop_zero]
  repeat still_step
  refine wpStill_nil ?_
  go_wp2_with fail
  refine (hadd_c _ (tot (tot (tot 0 x0 y0) x1 y1) x2 y2) _ _ x3 y3 (tot_t _ _ _) rfl rfl hx3 hy3 _ ?_ ?_ ?_ ?_).mono ?_
  · simp [go_sem]
  · simp [go_sem]
  · simp [go_sem]
  · simp [go_sem]
  rintro e w1 ⟨rfl, rfl⟩
  go_wp2
  rw [rounds_succ]
  go_wp2
  refine wp_region_still_tail 10 (by kernel_rfl) (by kernel_rfl) ?_
  change wpStill _ _ (World.drew _) (fun a' => wpList _ _ _ _ a' (World.drew _)) _ _
  simp only [List.take_succ_cons, List.take_zero, List.drop_succ_cons, List.drop_zero]
  repeat still_step
  refine wpStill_nil ?_
  go_wp2_with fail
  refine (hadd_c _ (tot (tot (tot (tot 0 x0 y0) x1 y1) x2 y2) x3 y3) _ _ x4 y4 (tot_t _ _ _) rfl rfl hx4 hy4 _ ?_ ?_ ?_ ?_).mono ?_
  · simp [go_sem]
  · simp [go_sem]
  · simp [go_sem]
  · simp [go_sem]
  rintro e w1 ⟨rfl, rfl⟩
  go_wp2
  rw [rounds_succ]
  go_wp2
  go_returns
  refine PostT.mk' ?_ (by go_grown)
  exact tot5_eq _ _ _ _ _ _ _ _ _ _

/-- five words in a block -/
def Arr5 (w : World) (g : Nat) (x0 x1 x2 x3 x4 : Int) : Prop := g < w.heap.size ∧ w.cell? ⟨g, 0, none⟩ = some (.int .u64 x0) ∧ w.cell? ⟨g, 1, none⟩ = some (.int .u64 x1) ∧ w.cell? ⟨g, 2, none⟩ = some (.int .u64 x2) ∧
  w.cell? ⟨g, 3, none⟩ = some (.int .u64 x3) ∧ w.cell? ⟨g, 4, none⟩ = some (.int .u64 x4)
theorem Arr5.below {w w' : World} {g : Nat} {x0 x1 x2 x3 x4 : Int} (h : Arr5 w g x0 x1 x2 x3 x4) (hb : Below w.heap.size w w') : Arr5 w' g x0 x1 x2 x3 x4 := by
  obtain ⟨hg, h0, h1, h2, h3, h4⟩ := h
  exact ⟨Nat.lt_of_lt_of_le hg hb.size, (hb.cell (p := ⟨g, 0, none⟩) hg).trans h0, (hb.cell (p := ⟨g, 1, none⟩) hg).trans h1, (hb.cell (p := ⟨g, 2, none⟩) hg).trans h2, (hb.cell (p := ⟨g, 3, none⟩) hg).trans h3, (hb.cell (p := ⟨g, 4, none⟩) hg).trans h4⟩
theorem Arr5.alloc {w : World} {g : Nat} {x0 x1 x2 x3 x4 : Int} (h : Arr5 w g x0 x1 x2 x3 x4) (o : Obj) : Arr5 (w.alloc o) g x0 x1 x2 x3 x4 := h.below ((Below.refl _ _).alloc (Nat.le_refl _) o)

end Go.Proofs.YtigcobcpfmnhoaaDoor
