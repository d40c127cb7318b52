/- The examples of awake, each call by itself. -/
import Derived.Test.YtjejibojcjfleaaGreatRt
namespace Fe
open Go.Proofs.YtjejibojcjfleaaGreat
theorem m1_ex : ∃ x : E, x = subE ⟨0, 0, 0, 0, 0⟩ ⟨1, 0, 0, 0, 0⟩ := ⟨_, rfl⟩
noncomputable def m1 : E := Classical.choose m1_ex
theorem m1_eq : m1 = subE ⟨0, 0, 0, 0, 0⟩ ⟨1, 0, 0, 0, 0⟩ := Classical.choose_spec m1_ex
theorem m1_w : W m1 := by rw [m1_eq]; exact subE_w _ _
theorem m1_canon : canon m1 = ⟨2251799813685228, 2251799813685247, 2251799813685247, 2251799813685247, 2251799813685247⟩ := by rw [m1_eq]; rfl
theorem inv0_ex : ∃ x : E, x = pw ⟨0, 0, 0, 0, 0⟩ 255 21 255 := ⟨_, rfl⟩
noncomputable def inv0 : E := Classical.choose inv0_ex
theorem inv0_eq : inv0 = pw ⟨0, 0, 0, 0, 0⟩ 255 21 255 := Classical.choose_spec inv0_ex
theorem inv0_w : W inv0 := by rw [inv0_eq]; exact pw_w _ _ _ _
theorem inv0_zero : eqE (canon inv0) ⟨0, 0, 0, 0, 0⟩ = true := by
  have hr : R inv0 := by rw [inv0_eq]; exact pw_r R_zero _ _ _
  rw [zero_dec hr]
  apply decide_eq_true
  rw [inv0_eq, nv_pwx R_zero chk255 (by decide) (by decide), nv_zero, pm_ex 0 255 21 (by decide)]
  decide +kernel
end Fe
namespace Go.Proofs.YtjejibojcjfleaaGreat
open Go.RowKit
theorem r41E_ex : ∃ x : Fe.E, x = rootE ⟨4, 0, 0, 0, 0⟩ ⟨1, 0, 0, 0, 0⟩ := ⟨_, rfl⟩
noncomputable def r41E : Fe.E := Classical.choose r41E_ex
theorem r41_eq : r41E = rootE ⟨4, 0, 0, 0, 0⟩ ⟨1, 0, 0, 0, 0⟩ := Classical.choose_spec r41E_ex
theorem r41_n : Fe.nv r41E = 2 ∧ Fe.R r41E := by
  have h := Fe.root_n Fe.R_four Fe.R_one
  rw [Fe.nv_four, Fe.nv_one, Fe.r41] at h
  rw [r41_eq]
  exact h.2
theorem r21E_ex : ∃ x : Fe.E, x = rootE ⟨2, 0, 0, 0, 0⟩ ⟨1, 0, 0, 0, 0⟩ := ⟨_, rfl⟩
noncomputable def r21E : Fe.E := Classical.choose r21E_ex
theorem r21_eq : r21E = rootE ⟨2, 0, 0, 0, 0⟩ ⟨1, 0, 0, 0, 0⟩ := Classical.choose_spec r21E_ex
theorem root41_c (w : World) : Calls Tryz.prog 20 #[.agg #[.int .u64 4, .int .u64 0, .int .u64 0, .int .u64 0, .int .u64 0], .agg #[.int .u64 1, .int .u64 0, .int .u64 0, .int .u64 0, .int .u64 0]] w (PostR r41E true w) := by
  have h := root_E ⟨4, 0, 0, 0, 0⟩ ⟨1, 0, 0, 0, 0⟩ Fe.R_four.w Fe.R_one.w w
  rw [← r41_eq, (Fe.root_n Fe.R_four Fe.R_one).1, Fe.nv_four, Fe.nv_one, Fe.b41] at h
  exact h
theorem root21_c (w : World) : Calls Tryz.prog 20 #[.agg #[.int .u64 2, .int .u64 0, .int .u64 0, .int .u64 0, .int .u64 0], .agg #[.int .u64 1, .int .u64 0, .int .u64 0, .int .u64 0, .int .u64 0]] w (PostR r21E false w) := by
  have h := root_E ⟨2, 0, 0, 0, 0⟩ ⟨1, 0, 0, 0, 0⟩ Fe.R_two.w Fe.R_one.w w
  rw [← r21_eq, (Fe.root_n Fe.R_two Fe.R_one).1, Fe.nv_two, Fe.nv_one, Fe.b21] at h
  exact h
theorem small_v (n : Int) (w : World) : Calls Tryz.prog 18 #[.int .u64 n] w (PostV (.agg #[.int .u64 n, .int .u64 0, .int .u64 0, .int .u64 0, .int .u64 0]) w) := small_c n w
theorem one_v (w : World) : Calls Tryz.prog 16 #[] w (PostV (.agg #[.int .u64 1, .int .u64 0, .int .u64 0, .int .u64 0, .int .u64 0]) w) := one_E w
theorem neg1_v (w : World) : Calls Tryz.prog 19 #[.agg #[.int .u64 1, .int .u64 0, .int .u64 0, .int .u64 0, .int .u64 0]] w (PostE Fe.m1 w) := by
  rw [Fe.m1_eq]
  exact neg_E ⟨1, 0, 0, 0, 0⟩ w
theorem inv0_v (w : World) : Calls Tryz.prog 23 #[.agg #[.int .u64 0, .int .u64 0, .int .u64 0, .int .u64 0, .int .u64 0]] w (PostE Fe.inv0 w) := by
  rw [Fe.inv0_eq]
  exact invert_E ⟨0, 0, 0, 0, 0⟩ Fe.R_zero.w w
theorem zero0_v (w : World) : Calls Tryz.prog 22 #[.agg #[.int .u64 Fe.inv0.a0, .int .u64 Fe.inv0.a1, .int .u64 Fe.inv0.a2, .int .u64 Fe.inv0.a3, .int .u64 Fe.inv0.a4]] w (PostV (.bool true) w) := by
  have h := zero_E Fe.inv0 Fe.inv0_w w
  rw [Fe.inv0_zero] at h
  exact h
theorem same41_v (w : World) : Calls Tryz.prog 21 #[.agg #[.int .u64 r41E.a0, .int .u64 r41E.a1, .int .u64 r41E.a2, .int .u64 r41E.a3, .int .u64 r41E.a4], .agg #[.int .u64 2, .int .u64 0, .int .u64 0, .int .u64 0, .int .u64 0]] w (PostV (.bool true) w) := by
  have h := same_E r41E ⟨2, 0, 0, 0, 0⟩ r41_n.2.w Fe.R_two.w w
  rw [Fe.same_dec r41_n.2 Fe.R_two, r41_n.1, Fe.nv_two] at h
  exact h
/-- a slice of 32 bytes in a block of its own -/
def SlB (b : Nat → Int) : Value → World → Prop := fun v w => ∃ g, v = .slice (some ⟨g, 0, none⟩) 32 32 ∧ Blk w g 5 (byV 32 b)
theorem sta_sl (b : Nat → Int) : Sta (SlB b) := fun _ _ _ ⟨g, h1, h2⟩ hb => ⟨g, h1, h2.below hb⟩
theorem byV_cell {w : World} {g : Nat} {n : Nat} {b : Nat → Int} (h : Blk w g 5 (byV n b)) : ∀ j, j < n → w.cell? ⟨g, 0 + j, none⟩ = some (.int .u8 (b j)) := fun j hj => by
  rw [Nat.zero_add, h.cell j, byV_get n b j hj]
theorem same_bytes (g1 g2 : Nat) (b1 b2 : Nat → Int) (w : World) (h1 : Blk w g1 5 (byV 32 b1)) (h2 : Blk w g2 5 (byV 32 b2)) :
    Calls Tryz.prog 11 #[.slice (some ⟨g1, 0, none⟩) 32 32, .slice (some ⟨g2, 0, none⟩) 32 32] w (PostV (.bool (sameB 32 32 b1 b2)) w) :=
  sameBytes_c g1 0 32 32 g2 0 32 32 b1 b2 (by decide) (by decide) w (byV_cell h1) (byV_cell h2) h1.lt h2.lt
/-- bytes are answered -/
def PostB (b : Nat → Int) (w : World) (e : Ending) (w' : World) : Prop := ∃ g, w.heap.size ≤ g ∧ e = .returned (.slice (some ⟨g, 0, none⟩) 32 32) ∧ Blk w' g 5 (byV 32 b) ∧ Below w.heap.size w w'
theorem put_B (a : Fe.E) (hw : Fe.W a) (w : World) : Calls Tryz.prog 12 #[.agg #[.int .u64 a.a0, .int .u64 a.a1, .int .u64 a.a2, .int .u64 a.a3, .int .u64 a.a4]] w (PostB (Fe.pb (Fe.canon a) 255) w) := put_E a hw (Fe.canon_d a).w w
theorem edge_B (n : Int) (h1 : -1000 ≤ n) (h2 : n ≤ 1000) (w : World) : Calls Tryz.prog 17 #[.int .i64 n] w (PostB (edgeB n) w) := edge_c n h1 h2 w
theorem sameN : sameB 32 32 (Fe.pb (Fe.canon Fe.m1) 255) (edgeB (-1)) = true := by
  rw [Fe.m1_canon]
  refine decide_eq_true ⟨rfl, ?_⟩
  decide +kernel
theorem edge_range (n : Int) (j : Nat) : 0 ≤ edgeB n j ∧ edgeB n j < 256 := by
  unfold edgeB
  split
  · omega
  · split <;> omega
theorem edge0_e : Fe.getE (edgeB 0) 255 = ⟨2251799813685229, 2251799813685247, 2251799813685247, 2251799813685247, 2251799813685247⟩ := eqE_iff.1 (by decide +kernel)
theorem edge0_no : getOk (edgeB 0) = false := by
  unfold getOk
  rw [edge0_e]
  decide +kernel
theorem get0_v (g : Nat) (w : World) (h : Blk w g 5 (byV 32 (edgeB 0))) : Calls Tryz.prog 7 #[.slice (some ⟨g, 0, none⟩) 32 32] w (PostR ⟨0, 0, 0, 0, 0⟩ false w) :=
  get_E (edgeB 0) g 0 w (byV_cell h) (edge_range 0) h.lt ⟨0, 0, 0, 0, 0⟩ false edge0_no.symm (by simp)
end Go.Proofs.YtjejibojcjfleaaGreat
