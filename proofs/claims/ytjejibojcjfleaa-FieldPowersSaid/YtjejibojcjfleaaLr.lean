/- The law FieldRing, walked. -/
import Derived.Test.YtjejibojcjfleaaLb
namespace Go.Proofs.Ytjejibojcjfleaa
open Go.RowKit
def xs3 (a b c : Fe.E) : Nat → Fe.E
  | 0 => a
  | 1 => b
  | _ => c
theorem cells3 (a b c : Fe.E) {w : World} {g : Nat} (h : Blk w g 24 #[.int .u64 a.a0, .int .u64 a.a1, .int .u64 a.a2, .int .u64 a.a3, .int .u64 a.a4, .int .u64 b.a0, .int .u64 b.a1, .int .u64 b.a2, .int .u64 b.a3, .int .u64 b.a4, .int .u64 c.a0, .int .u64 c.a1, .int .u64 c.a2, .int .u64 c.a3, .int .u64 c.a4]) : ∀ i, i < 3 → ∀ k, k < 5 → w.cell? ⟨g, i * 5 + k, none⟩ = some (.int .u64 (Fe.limb (xs3 a b c i) k)) := by
  intro i hi k hk
  rw [h.cell]
  have : i = 0 ∨ i = 1 ∨ i = 2 := by omega
  have h5 : k = 0 ∨ k = 1 ∨ k = 2 ∨ k = 3 ∨ k = 4 := by omega
  rcases this with rfl | rfl | rfl <;> rcases h5 with rfl | rfl | rfl | rfl | rfl <;> rfl
def SvB (x0 x1 x2 x3 x4 x5 x6 : Fe.E) : Value → World → Prop := fun v w => ∃ g, v = .slice (some ⟨g, 0, none⟩) 7 7 ∧ Blk w g 24 #[.int .u64 x0.a0, .int .u64 x0.a1, .int .u64 x0.a2, .int .u64 x0.a3, .int .u64 x0.a4, .int .u64 x1.a0, .int .u64 x1.a1, .int .u64 x1.a2, .int .u64 x1.a3, .int .u64 x1.a4, .int .u64 x2.a0, .int .u64 x2.a1, .int .u64 x2.a2, .int .u64 x2.a3, .int .u64 x2.a4, .int .u64 x3.a0, .int .u64 x3.a1, .int .u64 x3.a2, .int .u64 x3.a3, .int .u64 x3.a4, .int .u64 x4.a0, .int .u64 x4.a1, .int .u64 x4.a2, .int .u64 x4.a3, .int .u64 x4.a4, .int .u64 x5.a0, .int .u64 x5.a1, .int .u64 x5.a2, .int .u64 x5.a3, .int .u64 x5.a4, .int .u64 x6.a0, .int .u64 x6.a1, .int .u64 x6.a2, .int .u64 x6.a3, .int .u64 x6.a4]
theorem sta_sv (x0 x1 x2 x3 x4 x5 x6 : Fe.E) : Sta (SvB x0 x1 x2 x3 x4 x5 x6) := fun _ _ _ ⟨g, h1, h2⟩ hb => ⟨g, h1, h2.below hb⟩
def xs7 (x0 x1 x2 x3 x4 x5 x6 : Fe.E) : Nat → Fe.E
  | 0 => x0
  | 1 => x1
  | 2 => x2
  | 3 => x3
  | 4 => x4
  | 5 => x5
  | _ => x6
theorem cells7 (x0 x1 x2 x3 x4 x5 x6 : Fe.E) {w : World} {g : Nat} (h : Blk w g 24 #[.int .u64 x0.a0, .int .u64 x0.a1, .int .u64 x0.a2, .int .u64 x0.a3, .int .u64 x0.a4, .int .u64 x1.a0, .int .u64 x1.a1, .int .u64 x1.a2, .int .u64 x1.a3, .int .u64 x1.a4, .int .u64 x2.a0, .int .u64 x2.a1, .int .u64 x2.a2, .int .u64 x2.a3, .int .u64 x2.a4, .int .u64 x3.a0, .int .u64 x3.a1, .int .u64 x3.a2, .int .u64 x3.a3, .int .u64 x3.a4, .int .u64 x4.a0, .int .u64 x4.a1, .int .u64 x4.a2, .int .u64 x4.a3, .int .u64 x4.a4, .int .u64 x5.a0, .int .u64 x5.a1, .int .u64 x5.a2, .int .u64 x5.a3, .int .u64 x5.a4, .int .u64 x6.a0, .int .u64 x6.a1, .int .u64 x6.a2, .int .u64 x6.a3, .int .u64 x6.a4]) : ∀ i, i < 7 → ∀ k, k < 5 → w.cell? ⟨g, i * 5 + k, none⟩ = some (.int .u64 (Fe.limb (xs7 x0 x1 x2 x3 x4 x5 x6 i) k)) := by
  intro i hi k hk
  rw [h.cell]
  have : i = 0 ∨ i = 1 ∨ i = 2 ∨ i = 3 ∨ i = 4 ∨ i = 5 ∨ i = 6 := by omega
  have h5 : k = 0 ∨ k = 1 ∨ k = 2 ∨ k = 3 ∨ k = 4 := by omega
  rcases this with rfl | rfl | rfl | rfl | rfl | rfl | rfl <;> rcases h5 with rfl | rfl | rfl | rfl | rfl <;> rfl
def fr5L (a b : Fe.E) (B0 : Nat) : List (Value → World → Prop) := [
  Eq1 (.agg #[.int .u64 a.a0, .int .u64 a.a1, .int .u64 a.a2, .int .u64 a.a3, .int .u64 a.a4]),
  Eq1 (.agg #[.int .u64 b.a0, .int .u64 b.a1, .int .u64 b.a2, .int .u64 b.a3, .int .u64 b.a4]),
  Eq1 (.agg #[.int .u64 (Fe.addE a b).a0, .int .u64 (Fe.addE a b).a1, .int .u64 (Fe.addE a b).a2, .int .u64 (Fe.addE a b).a3, .int .u64 (Fe.addE a b).a4]),
  Eq1 (.agg #[.int .u64 a.a0, .int .u64 a.a1, .int .u64 a.a2, .int .u64 a.a3, .int .u64 a.a4]),
  Eq1 (.agg #[.int .u64 b.a0, .int .u64 b.a1, .int .u64 b.a2, .int .u64 b.a3, .int .u64 b.a4]),
  Eq1 (.agg #[.int .u64 (Fe.mulE a b).a0, .int .u64 (Fe.mulE a b).a1, .int .u64 (Fe.mulE a b).a2, .int .u64 (Fe.mulE a b).a3, .int .u64 (Fe.mulE a b).a4]),
  NewB B0 24 #[.int .u64 0, .int .u64 0, .int .u64 0, .int .u64 0, .int .u64 0],
  NewB B0 24 #[.int .u64 0, .int .u64 0, .int .u64 0, .int .u64 0, .int .u64 0]]
theorem fr5S (a b : Fe.E) (B0 : Nat) : ∀ j x' q q', (fr5L a b B0).getD j (fun _ _ => True) x' q → Below q.heap.size q q' → (fr5L a b B0).getD j (fun _ _ => True) x' q' := by
  refine sta_all _ ?_
  simp only [fr5L, List.mem_cons, forall_eq_or_imp, List.not_mem_nil, false_implies, implies_true, and_true]
  exact ⟨sta_eq _, sta_eq _, sta_eq _, sta_eq _, sta_eq _, sta_eq _, sta_new _ _ _, sta_new _ _ _⟩
theorem fr5O (a b : Fe.E) (B0 : Nat) : ∀ j x' q, (fun j => j == 6 || j == 7) j = true → (fr5L a b B0).getD j (fun _ _ => True) x' q → ∀ g, x' = .pointer (some ⟨g, 0, none⟩) → g < q.heap.size := by
  intro j x' q hj hv g e
  have hj' : j = 6 ∨ j = 7 := by simpa using hj
  rcases hj' with rfl | rfl
  all_goals exact new_lt hv e
def fr6L (a b c : Fe.E) : List (Value → World → Prop) := [
  Eq1 (.agg #[.int .u64 (Fe.addE a b).a0, .int .u64 (Fe.addE a b).a1, .int .u64 (Fe.addE a b).a2, .int .u64 (Fe.addE a b).a3, .int .u64 (Fe.addE a b).a4]),
  Eq1 (.agg #[.int .u64 b.a0, .int .u64 b.a1, .int .u64 b.a2, .int .u64 b.a3, .int .u64 b.a4]),
  Eq1 (.agg #[.int .u64 a.a0, .int .u64 a.a1, .int .u64 a.a2, .int .u64 a.a3, .int .u64 a.a4]),
  Eq1 (.agg #[.int .u64 (Fe.addE b a).a0, .int .u64 (Fe.addE b a).a1, .int .u64 (Fe.addE b a).a2, .int .u64 (Fe.addE b a).a3, .int .u64 (Fe.addE b a).a4]),
  Eq1 (.bool true),
  Eq1 (.bool false),
  Eq1 (.bool false),
  Eq1 (.agg #[.int .u64 (Fe.mulE a b).a0, .int .u64 (Fe.mulE a b).a1, .int .u64 (Fe.mulE a b).a2, .int .u64 (Fe.mulE a b).a3, .int .u64 (Fe.mulE a b).a4]),
  Eq1 (.agg #[.int .u64 b.a0, .int .u64 b.a1, .int .u64 b.a2, .int .u64 b.a3, .int .u64 b.a4]),
  Eq1 (.agg #[.int .u64 a.a0, .int .u64 a.a1, .int .u64 a.a2, .int .u64 a.a3, .int .u64 a.a4]),
  Eq1 (.agg #[.int .u64 (Fe.mulE b a).a0, .int .u64 (Fe.mulE b a).a1, .int .u64 (Fe.mulE b a).a2, .int .u64 (Fe.mulE b a).a3, .int .u64 (Fe.mulE b a).a4]),
  Eq1 (.bool true),
  Eq1 (.bool false),
  Eq1 (.bool false),
  Eq1 (.bool false),
  Eq1 (.agg #[.int .u64 (Fe.addE a b).a0, .int .u64 (Fe.addE a b).a1, .int .u64 (Fe.addE a b).a2, .int .u64 (Fe.addE a b).a3, .int .u64 (Fe.addE a b).a4]),
  Eq1 (.agg #[.int .u64 c.a0, .int .u64 c.a1, .int .u64 c.a2, .int .u64 c.a3, .int .u64 c.a4]),
  Eq1 (.agg #[.int .u64 (Fe.addE (Fe.addE a b) c).a0, .int .u64 (Fe.addE (Fe.addE a b) c).a1, .int .u64 (Fe.addE (Fe.addE a b) c).a2, .int .u64 (Fe.addE (Fe.addE a b) c).a3, .int .u64 (Fe.addE (Fe.addE a b) c).a4]),
  Eq1 (.agg #[.int .u64 a.a0, .int .u64 a.a1, .int .u64 a.a2, .int .u64 a.a3, .int .u64 a.a4]),
  Eq1 (.agg #[.int .u64 b.a0, .int .u64 b.a1, .int .u64 b.a2, .int .u64 b.a3, .int .u64 b.a4]),
  Eq1 (.agg #[.int .u64 c.a0, .int .u64 c.a1, .int .u64 c.a2, .int .u64 c.a3, .int .u64 c.a4]),
  Eq1 (.agg #[.int .u64 (Fe.addE b c).a0, .int .u64 (Fe.addE b c).a1, .int .u64 (Fe.addE b c).a2, .int .u64 (Fe.addE b c).a3, .int .u64 (Fe.addE b c).a4]),
  Eq1 (.agg #[.int .u64 (Fe.addE a (Fe.addE b c)).a0, .int .u64 (Fe.addE a (Fe.addE b c)).a1, .int .u64 (Fe.addE a (Fe.addE b c)).a2, .int .u64 (Fe.addE a (Fe.addE b c)).a3, .int .u64 (Fe.addE a (Fe.addE b c)).a4]),
  Eq1 (.bool true),
  Eq1 (.bool false),
  Eq1 (.bool false),
  Eq1 (.bool false),
  Eq1 (.agg #[.int .u64 (Fe.mulE a b).a0, .int .u64 (Fe.mulE a b).a1, .int .u64 (Fe.mulE a b).a2, .int .u64 (Fe.mulE a b).a3, .int .u64 (Fe.mulE a b).a4]),
  Eq1 (.agg #[.int .u64 c.a0, .int .u64 c.a1, .int .u64 c.a2, .int .u64 c.a3, .int .u64 c.a4]),
  Eq1 (.agg #[.int .u64 (Fe.mulE (Fe.mulE a b) c).a0, .int .u64 (Fe.mulE (Fe.mulE a b) c).a1, .int .u64 (Fe.mulE (Fe.mulE a b) c).a2, .int .u64 (Fe.mulE (Fe.mulE a b) c).a3, .int .u64 (Fe.mulE (Fe.mulE a b) c).a4]),
  Eq1 (.agg #[.int .u64 a.a0, .int .u64 a.a1, .int .u64 a.a2, .int .u64 a.a3, .int .u64 a.a4]),
  Eq1 (.agg #[.int .u64 b.a0, .int .u64 b.a1, .int .u64 b.a2, .int .u64 b.a3, .int .u64 b.a4]),
  Eq1 (.agg #[.int .u64 c.a0, .int .u64 c.a1, .int .u64 c.a2, .int .u64 c.a3, .int .u64 c.a4]),
  Eq1 (.agg #[.int .u64 (Fe.mulE b c).a0, .int .u64 (Fe.mulE b c).a1, .int .u64 (Fe.mulE b c).a2, .int .u64 (Fe.mulE b c).a3, .int .u64 (Fe.mulE b c).a4]),
  Eq1 (.agg #[.int .u64 (Fe.mulE a (Fe.mulE b c)).a0, .int .u64 (Fe.mulE a (Fe.mulE b c)).a1, .int .u64 (Fe.mulE a (Fe.mulE b c)).a2, .int .u64 (Fe.mulE a (Fe.mulE b c)).a3, .int .u64 (Fe.mulE a (Fe.mulE b c)).a4]),
  Eq1 (.bool true),
  Eq1 (.bool false),
  Eq1 (.bool false)]
theorem fr6S (a b c : Fe.E) : ∀ j x' q q', (fr6L a b c).getD j (fun _ _ => True) x' q → Below q.heap.size q q' → (fr6L a b c).getD j (fun _ _ => True) x' q' := by
  refine sta_all _ ?_
  simp only [fr6L, List.mem_cons, forall_eq_or_imp, List.not_mem_nil, false_implies, implies_true, and_true]
  exact ⟨sta_eq _, sta_eq _, sta_eq _, sta_eq _, sta_eq _, sta_eq _, sta_eq _, sta_eq _, sta_eq _, sta_eq _, sta_eq _, sta_eq _, sta_eq _, sta_eq _, sta_eq _, sta_eq _, sta_eq _, sta_eq _, sta_eq _, sta_eq _, sta_eq _, sta_eq _, sta_eq _, sta_eq _, sta_eq _, sta_eq _, sta_eq _, sta_eq _, sta_eq _, sta_eq _, sta_eq _, sta_eq _, sta_eq _, sta_eq _, sta_eq _, sta_eq _, sta_eq _, sta_eq _⟩
def fr8L (a b c : Fe.E) (B0 : Nat) : List (Value → World → Prop) := [
  Eq1 (.agg #[.int .u64 c.a0, .int .u64 c.a1, .int .u64 c.a2, .int .u64 c.a3, .int .u64 c.a4]),
  Eq1 (.agg #[.int .u64 (Fe.addE a b).a0, .int .u64 (Fe.addE a b).a1, .int .u64 (Fe.addE a b).a2, .int .u64 (Fe.addE a b).a3, .int .u64 (Fe.addE a b).a4]),
  Eq1 (.agg #[.int .u64 (Fe.mulE c (Fe.addE a b)).a0, .int .u64 (Fe.mulE c (Fe.addE a b)).a1, .int .u64 (Fe.mulE c (Fe.addE a b)).a2, .int .u64 (Fe.mulE c (Fe.addE a b)).a3, .int .u64 (Fe.mulE c (Fe.addE a b)).a4]),
  Eq1 (.agg #[.int .u64 c.a0, .int .u64 c.a1, .int .u64 c.a2, .int .u64 c.a3, .int .u64 c.a4]),
  Eq1 (.agg #[.int .u64 a.a0, .int .u64 a.a1, .int .u64 a.a2, .int .u64 a.a3, .int .u64 a.a4]),
  Eq1 (.agg #[.int .u64 (Fe.mulE c a).a0, .int .u64 (Fe.mulE c a).a1, .int .u64 (Fe.mulE c a).a2, .int .u64 (Fe.mulE c a).a3, .int .u64 (Fe.mulE c a).a4]),
  Eq1 (.agg #[.int .u64 c.a0, .int .u64 c.a1, .int .u64 c.a2, .int .u64 c.a3, .int .u64 c.a4]),
  Eq1 (.agg #[.int .u64 b.a0, .int .u64 b.a1, .int .u64 b.a2, .int .u64 b.a3, .int .u64 b.a4]),
  Eq1 (.agg #[.int .u64 (Fe.mulE c b).a0, .int .u64 (Fe.mulE c b).a1, .int .u64 (Fe.mulE c b).a2, .int .u64 (Fe.mulE c b).a3, .int .u64 (Fe.mulE c b).a4]),
  Eq1 (.agg #[.int .u64 (Fe.addE (Fe.mulE c a) (Fe.mulE c b)).a0, .int .u64 (Fe.addE (Fe.mulE c a) (Fe.mulE c b)).a1, .int .u64 (Fe.addE (Fe.mulE c a) (Fe.mulE c b)).a2, .int .u64 (Fe.addE (Fe.mulE c a) (Fe.mulE c b)).a3, .int .u64 (Fe.addE (Fe.mulE c a) (Fe.mulE c b)).a4]),
  NewB B0 24 #[.int .u64 0, .int .u64 0, .int .u64 0, .int .u64 0, .int .u64 0],
  NewB B0 24 #[.int .u64 0, .int .u64 0, .int .u64 0, .int .u64 0, .int .u64 0]]
theorem fr8S (a b c : Fe.E) (B0 : Nat) : ∀ j x' q q', (fr8L a b c B0).getD j (fun _ _ => True) x' q → Below q.heap.size q q' → (fr8L a b c B0).getD j (fun _ _ => True) x' q' := by
  refine sta_all _ ?_
  simp only [fr8L, List.mem_cons, forall_eq_or_imp, List.not_mem_nil, false_implies, implies_true, and_true]
  exact ⟨sta_eq _, sta_eq _, sta_eq _, sta_eq _, sta_eq _, sta_eq _, sta_eq _, sta_eq _, sta_eq _, sta_eq _, sta_new _ _ _, sta_new _ _ _⟩
theorem fr8O (a b c : Fe.E) (B0 : Nat) : ∀ j x' q, (fun j => j == 10 || j == 11) j = true → (fr8L a b c B0).getD j (fun _ _ => True) x' q → ∀ g, x' = .pointer (some ⟨g, 0, none⟩) → g < q.heap.size := by
  intro j x' q hj hv g e
  have hj' : j = 10 ∨ j = 11 := by simpa using hj
  rcases hj' with rfl | rfl
  all_goals exact new_lt hv e
def fr9L (a b c : Fe.E) : List (Value → World → Prop) := [
  Eq1 (.agg #[.int .u64 (Fe.mulE c (Fe.addE a b)).a0, .int .u64 (Fe.mulE c (Fe.addE a b)).a1, .int .u64 (Fe.mulE c (Fe.addE a b)).a2, .int .u64 (Fe.mulE c (Fe.addE a b)).a3, .int .u64 (Fe.mulE c (Fe.addE a b)).a4]),
  Eq1 (.agg #[.int .u64 (Fe.addE (Fe.mulE c a) (Fe.mulE c b)).a0, .int .u64 (Fe.addE (Fe.mulE c a) (Fe.mulE c b)).a1, .int .u64 (Fe.addE (Fe.mulE c a) (Fe.mulE c b)).a2, .int .u64 (Fe.addE (Fe.mulE c a) (Fe.mulE c b)).a3, .int .u64 (Fe.addE (Fe.mulE c a) (Fe.mulE c b)).a4]),
  Eq1 (.bool true),
  Eq1 (.bool false),
  Eq1 (.bool false),
  Eq1 (.agg #[.int .u64 (Fe.addE a b).a0, .int .u64 (Fe.addE a b).a1, .int .u64 (Fe.addE a b).a2, .int .u64 (Fe.addE a b).a3, .int .u64 (Fe.addE a b).a4]),
  Eq1 (.agg #[.int .u64 b.a0, .int .u64 b.a1, .int .u64 b.a2, .int .u64 b.a3, .int .u64 b.a4]),
  Eq1 (.agg #[.int .u64 (Fe.subE (Fe.addE a b) b).a0, .int .u64 (Fe.subE (Fe.addE a b) b).a1, .int .u64 (Fe.subE (Fe.addE a b) b).a2, .int .u64 (Fe.subE (Fe.addE a b) b).a3, .int .u64 (Fe.subE (Fe.addE a b) b).a4]),
  Eq1 (.agg #[.int .u64 a.a0, .int .u64 a.a1, .int .u64 a.a2, .int .u64 a.a3, .int .u64 a.a4]),
  Eq1 (.bool true),
  Eq1 (.bool false),
  Eq1 (.bool false),
  Eq1 (.bool false),
  Eq1 (.agg #[.int .u64 a.a0, .int .u64 a.a1, .int .u64 a.a2, .int .u64 a.a3, .int .u64 a.a4]),
  Eq1 (.agg #[.int .u64 a.a0, .int .u64 a.a1, .int .u64 a.a2, .int .u64 a.a3, .int .u64 a.a4]),
  Eq1 (.agg #[.int .u64 (Fe.subE ⟨0, 0, 0, 0, 0⟩ a).a0, .int .u64 (Fe.subE ⟨0, 0, 0, 0, 0⟩ a).a1, .int .u64 (Fe.subE ⟨0, 0, 0, 0, 0⟩ a).a2, .int .u64 (Fe.subE ⟨0, 0, 0, 0, 0⟩ a).a3, .int .u64 (Fe.subE ⟨0, 0, 0, 0, 0⟩ a).a4]),
  Eq1 (.agg #[.int .u64 (Fe.addE a (Fe.subE ⟨0, 0, 0, 0, 0⟩ a)).a0, .int .u64 (Fe.addE a (Fe.subE ⟨0, 0, 0, 0, 0⟩ a)).a1, .int .u64 (Fe.addE a (Fe.subE ⟨0, 0, 0, 0, 0⟩ a)).a2, .int .u64 (Fe.addE a (Fe.subE ⟨0, 0, 0, 0, 0⟩ a)).a3, .int .u64 (Fe.addE a (Fe.subE ⟨0, 0, 0, 0, 0⟩ a)).a4]),
  Eq1 (.bool true),
  Eq1 (.bool false),
  Eq1 (.bool false),
  Eq1 (.bool false),
  Eq1 (.agg #[.int .u64 a.a0, .int .u64 a.a1, .int .u64 a.a2, .int .u64 a.a3, .int .u64 a.a4]),
  Eq1 (.agg #[.int .u64 (Fe.mulE a a).a0, .int .u64 (Fe.mulE a a).a1, .int .u64 (Fe.mulE a a).a2, .int .u64 (Fe.mulE a a).a3, .int .u64 (Fe.mulE a a).a4]),
  Eq1 (.agg #[.int .u64 a.a0, .int .u64 a.a1, .int .u64 a.a2, .int .u64 a.a3, .int .u64 a.a4]),
  Eq1 (.agg #[.int .u64 a.a0, .int .u64 a.a1, .int .u64 a.a2, .int .u64 a.a3, .int .u64 a.a4]),
  Eq1 (.agg #[.int .u64 (Fe.mulE a a).a0, .int .u64 (Fe.mulE a a).a1, .int .u64 (Fe.mulE a a).a2, .int .u64 (Fe.mulE a a).a3, .int .u64 (Fe.mulE a a).a4]),
  Eq1 (.bool true),
  Eq1 (.bool false),
  Eq1 (.bool false),
  Eq1 (.bool false),
  Eq1 (.agg #[.int .u64 a.a0, .int .u64 a.a1, .int .u64 a.a2, .int .u64 a.a3, .int .u64 a.a4]),
  Eq1 (.agg #[.int .u64 1, .int .u64 0, .int .u64 0, .int .u64 0, .int .u64 0]),
  Eq1 (.agg #[.int .u64 (Fe.mulE a (⟨1, 0, 0, 0, 0⟩)).a0, .int .u64 (Fe.mulE a (⟨1, 0, 0, 0, 0⟩)).a1, .int .u64 (Fe.mulE a (⟨1, 0, 0, 0, 0⟩)).a2, .int .u64 (Fe.mulE a (⟨1, 0, 0, 0, 0⟩)).a3, .int .u64 (Fe.mulE a (⟨1, 0, 0, 0, 0⟩)).a4]),
  Eq1 (.agg #[.int .u64 a.a0, .int .u64 a.a1, .int .u64 a.a2, .int .u64 a.a3, .int .u64 a.a4]),
  Eq1 (.bool true),
  Eq1 (.bool false),
  Eq1 (.bool false)]
theorem fr9S (a b c : Fe.E) : ∀ j x' q q', (fr9L a b c).getD j (fun _ _ => True) x' q → Below q.heap.size q q' → (fr9L a b c).getD j (fun _ _ => True) x' q' := by
  refine sta_all _ ?_
  simp only [fr9L, List.mem_cons, forall_eq_or_imp, List.not_mem_nil, false_implies, implies_true, and_true]
  exact ⟨sta_eq _, sta_eq _, sta_eq _, sta_eq _, sta_eq _, sta_eq _, sta_eq _, sta_eq _, sta_eq _, sta_eq _, sta_eq _, sta_eq _, sta_eq _, sta_eq _, sta_eq _, sta_eq _, sta_eq _, sta_eq _, sta_eq _, sta_eq _, sta_eq _, sta_eq _, sta_eq _, sta_eq _, sta_eq _, sta_eq _, sta_eq _, sta_eq _, sta_eq _, sta_eq _, sta_eq _, sta_eq _, sta_eq _, sta_eq _, sta_eq _, sta_eq _, sta_eq _⟩
def frFL (a b c i : Fe.E) (zb : Bool) : List (Value → World → Prop) := [
  Eq1 (.agg #[.int .u64 (Fe.addE a b).a0, .int .u64 (Fe.addE a b).a1, .int .u64 (Fe.addE a b).a2, .int .u64 (Fe.addE a b).a3, .int .u64 (Fe.addE a b).a4]),
  Eq1 (.agg #[.int .u64 (Fe.mulE a b).a0, .int .u64 (Fe.mulE a b).a1, .int .u64 (Fe.mulE a b).a2, .int .u64 (Fe.mulE a b).a3, .int .u64 (Fe.mulE a b).a4]),
  Eq1 (.agg #[.int .u64 (Fe.mulE c (Fe.addE a b)).a0, .int .u64 (Fe.mulE c (Fe.addE a b)).a1, .int .u64 (Fe.mulE c (Fe.addE a b)).a2, .int .u64 (Fe.mulE c (Fe.addE a b)).a3, .int .u64 (Fe.mulE c (Fe.addE a b)).a4]),
  Eq1 (.agg #[.int .u64 (Fe.addE (Fe.mulE c a) (Fe.mulE c b)).a0, .int .u64 (Fe.addE (Fe.mulE c a) (Fe.mulE c b)).a1, .int .u64 (Fe.addE (Fe.mulE c a) (Fe.mulE c b)).a2, .int .u64 (Fe.addE (Fe.mulE c a) (Fe.mulE c b)).a3, .int .u64 (Fe.addE (Fe.mulE c a) (Fe.mulE c b)).a4]),
  Eq1 (.agg #[.int .u64 i.a0, .int .u64 i.a1, .int .u64 i.a2, .int .u64 i.a3, .int .u64 i.a4]),
  Eq1 (.agg #[.int .u64 Fe.m1.a0, .int .u64 Fe.m1.a1, .int .u64 Fe.m1.a2, .int .u64 Fe.m1.a3, .int .u64 Fe.m1.a4]),
  Eq1 (.agg #[.int .u64 a.a0, .int .u64 a.a1, .int .u64 a.a2, .int .u64 a.a3, .int .u64 a.a4]),
  Eq1 (.agg #[.int .u64 b.a0, .int .u64 b.a1, .int .u64 b.a2, .int .u64 b.a3, .int .u64 b.a4]),
  Eq1 (.agg #[.int .u64 (Fe.subE a b).a0, .int .u64 (Fe.subE a b).a1, .int .u64 (Fe.subE a b).a2, .int .u64 (Fe.subE a b).a3, .int .u64 (Fe.subE a b).a4]),
  SvB (Fe.addE a b) (Fe.mulE a b) (Fe.mulE c (Fe.addE a b)) (Fe.addE (Fe.mulE c a) (Fe.mulE c b)) i Fe.m1 (Fe.subE a b),
  Eq1 (.bool true),
  Eq1 (.bool true),
  Eq1 (.agg #[.int .u64 a.a0, .int .u64 a.a1, .int .u64 a.a2, .int .u64 a.a3, .int .u64 a.a4]),
  Eq1 (.agg #[.int .u64 i.a0, .int .u64 i.a1, .int .u64 i.a2, .int .u64 i.a3, .int .u64 i.a4]),
  Eq1 (.agg #[.int .u64 (Fe.mulE a i).a0, .int .u64 (Fe.mulE a i).a1, .int .u64 (Fe.mulE a i).a2, .int .u64 (Fe.mulE a i).a3, .int .u64 (Fe.mulE a i).a4]),
  Eq1 (.agg #[.int .u64 1, .int .u64 0, .int .u64 0, .int .u64 0, .int .u64 0]),
  Eq1 (.bool true),
  Eq1 (.agg #[.int .u64 a.a0, .int .u64 a.a1, .int .u64 a.a2, .int .u64 a.a3, .int .u64 a.a4]),
  Eq1 (.bool false),
  Eq1 (.bool true),
  Eq1 (.bool true),
  Eq1 (.bool true),
  Eq1 (.bool true),
  Eq1 (.agg #[.int .u64 Fe.m1.a0, .int .u64 Fe.m1.a1, .int .u64 Fe.m1.a2, .int .u64 Fe.m1.a3, .int .u64 Fe.m1.a4]),
  Eq1 (.agg #[.int .u64 Fe.m1.a0, .int .u64 Fe.m1.a1, .int .u64 Fe.m1.a2, .int .u64 Fe.m1.a3, .int .u64 Fe.m1.a4]),
  Eq1 (.agg #[.int .u64 (Fe.mulE Fe.m1 Fe.m1).a0, .int .u64 (Fe.mulE Fe.m1 Fe.m1).a1, .int .u64 (Fe.mulE Fe.m1 Fe.m1).a2, .int .u64 (Fe.mulE Fe.m1 Fe.m1).a3, .int .u64 (Fe.mulE Fe.m1 Fe.m1).a4]),
  Eq1 (.agg #[.int .u64 1, .int .u64 0, .int .u64 0, .int .u64 0, .int .u64 0]),
  Eq1 (.bool true),
  Eq1 (.bool true),
  Eq1 (.bool true),
  Eq1 (.agg #[.int .u64 a.a0, .int .u64 a.a1, .int .u64 a.a2, .int .u64 a.a3, .int .u64 a.a4]),
  Eq1 (.agg #[.int .u64 b.a0, .int .u64 b.a1, .int .u64 b.a2, .int .u64 b.a3, .int .u64 b.a4]),
  Eq1 (.agg #[.int .u64 (Fe.mulE a b).a0, .int .u64 (Fe.mulE a b).a1, .int .u64 (Fe.mulE a b).a2, .int .u64 (Fe.mulE a b).a3, .int .u64 (Fe.mulE a b).a4]),
  Eq1 (.bool zb),
  Eq1 (.agg #[.int .u64 a.a0, .int .u64 a.a1, .int .u64 a.a2, .int .u64 a.a3, .int .u64 a.a4]),
  Eq1 (.bool false),
  Eq1 (.bool false),
  Eq1 (.agg #[.int .u64 b.a0, .int .u64 b.a1, .int .u64 b.a2, .int .u64 b.a3, .int .u64 b.a4]),
  Eq1 (.bool zb),
  Eq1 (.bool zb),
  Eq1 (.bool true),
  Eq1 (.bool true),
  Eq1 (.bool true)]
theorem frFS (a b c i : Fe.E) (zb : Bool) : ∀ j x' q q', (frFL a b c i zb).getD j (fun _ _ => True) x' q → Below q.heap.size q q' → (frFL a b c i zb).getD j (fun _ _ => True) x' q' := by
  refine sta_all _ ?_
  simp only [frFL, List.mem_cons, forall_eq_or_imp, List.not_mem_nil, false_implies, implies_true, and_true]
  exact ⟨sta_eq _, sta_eq _, sta_eq _, sta_eq _, sta_eq _, sta_eq _, sta_eq _, sta_eq _, sta_eq _, sta_sv _ _ _ _ _ _ _, sta_eq _, sta_eq _, sta_eq _, sta_eq _, sta_eq _, sta_eq _, sta_eq _, sta_eq _, sta_eq _, sta_eq _, sta_eq _, sta_eq _, sta_eq _, sta_eq _, sta_eq _, sta_eq _, sta_eq _, sta_eq _, sta_eq _, sta_eq _, sta_eq _, sta_eq _, sta_eq _, sta_eq _, sta_eq _, sta_eq _, sta_eq _, sta_eq _, sta_eq _, sta_eq _, sta_eq _, sta_eq _, sta_eq _⟩
def frTL (a b c i : Fe.E) : List (Value → World → Prop) := [
  Eq1 (.agg #[.int .u64 (Fe.addE a b).a0, .int .u64 (Fe.addE a b).a1, .int .u64 (Fe.addE a b).a2, .int .u64 (Fe.addE a b).a3, .int .u64 (Fe.addE a b).a4]),
  Eq1 (.agg #[.int .u64 (Fe.mulE a b).a0, .int .u64 (Fe.mulE a b).a1, .int .u64 (Fe.mulE a b).a2, .int .u64 (Fe.mulE a b).a3, .int .u64 (Fe.mulE a b).a4]),
  Eq1 (.agg #[.int .u64 (Fe.mulE c (Fe.addE a b)).a0, .int .u64 (Fe.mulE c (Fe.addE a b)).a1, .int .u64 (Fe.mulE c (Fe.addE a b)).a2, .int .u64 (Fe.mulE c (Fe.addE a b)).a3, .int .u64 (Fe.mulE c (Fe.addE a b)).a4]),
  Eq1 (.agg #[.int .u64 (Fe.addE (Fe.mulE c a) (Fe.mulE c b)).a0, .int .u64 (Fe.addE (Fe.mulE c a) (Fe.mulE c b)).a1, .int .u64 (Fe.addE (Fe.mulE c a) (Fe.mulE c b)).a2, .int .u64 (Fe.addE (Fe.mulE c a) (Fe.mulE c b)).a3, .int .u64 (Fe.addE (Fe.mulE c a) (Fe.mulE c b)).a4]),
  Eq1 (.agg #[.int .u64 i.a0, .int .u64 i.a1, .int .u64 i.a2, .int .u64 i.a3, .int .u64 i.a4]),
  Eq1 (.agg #[.int .u64 Fe.m1.a0, .int .u64 Fe.m1.a1, .int .u64 Fe.m1.a2, .int .u64 Fe.m1.a3, .int .u64 Fe.m1.a4]),
  Eq1 (.agg #[.int .u64 a.a0, .int .u64 a.a1, .int .u64 a.a2, .int .u64 a.a3, .int .u64 a.a4]),
  Eq1 (.agg #[.int .u64 b.a0, .int .u64 b.a1, .int .u64 b.a2, .int .u64 b.a3, .int .u64 b.a4]),
  Eq1 (.agg #[.int .u64 (Fe.subE a b).a0, .int .u64 (Fe.subE a b).a1, .int .u64 (Fe.subE a b).a2, .int .u64 (Fe.subE a b).a3, .int .u64 (Fe.subE a b).a4]),
  SvB (Fe.addE a b) (Fe.mulE a b) (Fe.mulE c (Fe.addE a b)) (Fe.addE (Fe.mulE c a) (Fe.mulE c b)) i Fe.m1 (Fe.subE a b),
  Eq1 (.bool true),
  Eq1 (.bool true),
  Eq1 (.agg #[.int .u64 a.a0, .int .u64 a.a1, .int .u64 a.a2, .int .u64 a.a3, .int .u64 a.a4]),
  Eq1 (.agg #[.int .u64 i.a0, .int .u64 i.a1, .int .u64 i.a2, .int .u64 i.a3, .int .u64 i.a4]),
  Eq1 (.agg #[.int .u64 (Fe.mulE a i).a0, .int .u64 (Fe.mulE a i).a1, .int .u64 (Fe.mulE a i).a2, .int .u64 (Fe.mulE a i).a3, .int .u64 (Fe.mulE a i).a4]),
  Eq1 (.agg #[.int .u64 1, .int .u64 0, .int .u64 0, .int .u64 0, .int .u64 0]),
  Eq1 (.bool false),
  Eq1 (.agg #[.int .u64 a.a0, .int .u64 a.a1, .int .u64 a.a2, .int .u64 a.a3, .int .u64 a.a4]),
  Eq1 (.bool true),
  Eq1 (.bool false),
  Eq1 (.bool true),
  Eq1 (.bool true),
  Eq1 (.bool true),
  Eq1 (.agg #[.int .u64 Fe.m1.a0, .int .u64 Fe.m1.a1, .int .u64 Fe.m1.a2, .int .u64 Fe.m1.a3, .int .u64 Fe.m1.a4]),
  Eq1 (.agg #[.int .u64 Fe.m1.a0, .int .u64 Fe.m1.a1, .int .u64 Fe.m1.a2, .int .u64 Fe.m1.a3, .int .u64 Fe.m1.a4]),
  Eq1 (.agg #[.int .u64 (Fe.mulE Fe.m1 Fe.m1).a0, .int .u64 (Fe.mulE Fe.m1 Fe.m1).a1, .int .u64 (Fe.mulE Fe.m1 Fe.m1).a2, .int .u64 (Fe.mulE Fe.m1 Fe.m1).a3, .int .u64 (Fe.mulE Fe.m1 Fe.m1).a4]),
  Eq1 (.agg #[.int .u64 1, .int .u64 0, .int .u64 0, .int .u64 0, .int .u64 0]),
  Eq1 (.bool true),
  Eq1 (.bool true),
  Eq1 (.bool true),
  Eq1 (.agg #[.int .u64 a.a0, .int .u64 a.a1, .int .u64 a.a2, .int .u64 a.a3, .int .u64 a.a4]),
  Eq1 (.agg #[.int .u64 b.a0, .int .u64 b.a1, .int .u64 b.a2, .int .u64 b.a3, .int .u64 b.a4]),
  Eq1 (.agg #[.int .u64 (Fe.mulE a b).a0, .int .u64 (Fe.mulE a b).a1, .int .u64 (Fe.mulE a b).a2, .int .u64 (Fe.mulE a b).a3, .int .u64 (Fe.mulE a b).a4]),
  Eq1 (.bool true),
  Eq1 (.agg #[.int .u64 a.a0, .int .u64 a.a1, .int .u64 a.a2, .int .u64 a.a3, .int .u64 a.a4]),
  Eq1 (.bool true),
  Eq1 (.bool true),
  Eq1 (undef),
  Eq1 (undef),
  Eq1 (.bool true),
  Eq1 (.bool true),
  Eq1 (.bool true),
  Eq1 (.bool true)]
theorem frTS (a b c i : Fe.E) : ∀ j x' q q', (frTL a b c i).getD j (fun _ _ => True) x' q → Below q.heap.size q q' → (frTL a b c i).getD j (fun _ _ => True) x' q' := by
  refine sta_all _ ?_
  simp only [frTL, List.mem_cons, forall_eq_or_imp, List.not_mem_nil, false_implies, implies_true, and_true]
  exact ⟨sta_eq _, sta_eq _, sta_eq _, sta_eq _, sta_eq _, sta_eq _, sta_eq _, sta_eq _, sta_eq _, sta_sv _ _ _ _ _ _ _, sta_eq _, sta_eq _, sta_eq _, sta_eq _, sta_eq _, sta_eq _, sta_eq _, sta_eq _, sta_eq _, sta_eq _, sta_eq _, sta_eq _, sta_eq _, sta_eq _, sta_eq _, sta_eq _, sta_eq _, sta_eq _, sta_eq _, sta_eq _, sta_eq _, sta_eq _, sta_eq _, sta_eq _, sta_eq _, sta_eq _, sta_eq _, sta_eq _, sta_eq _, sta_eq _, sta_eq _, sta_eq _, sta_eq _⟩

set_option maxHeartbeats 8000000 in
set_option maxRecDepth 100000 in
theorem fieldRing_g (a b c : Fe.E) (hwa : Fe.W a) (hwb : Fe.W b) (hwc : Fe.W c) (hr : rightB 3 (xs3 a b c) = true)
    (c1 : ∀ w, Calls Try.prog 21 #[.agg #[.int .u64 (Fe.addE a b).a0, .int .u64 (Fe.addE a b).a1, .int .u64 (Fe.addE a b).a2, .int .u64 (Fe.addE a b).a3, .int .u64 (Fe.addE a b).a4], .agg #[.int .u64 (Fe.addE b a).a0, .int .u64 (Fe.addE b a).a1, .int .u64 (Fe.addE b a).a2, .int .u64 (Fe.addE b a).a3, .int .u64 (Fe.addE b a).a4]] w (PostV (.bool true) w))
    (c2 : ∀ w, Calls Try.prog 21 #[.agg #[.int .u64 (Fe.mulE a b).a0, .int .u64 (Fe.mulE a b).a1, .int .u64 (Fe.mulE a b).a2, .int .u64 (Fe.mulE a b).a3, .int .u64 (Fe.mulE a b).a4], .agg #[.int .u64 (Fe.mulE b a).a0, .int .u64 (Fe.mulE b a).a1, .int .u64 (Fe.mulE b a).a2, .int .u64 (Fe.mulE b a).a3, .int .u64 (Fe.mulE b a).a4]] w (PostV (.bool true) w))
    (c3 : ∀ w, Calls Try.prog 21 #[.agg #[.int .u64 (Fe.addE (Fe.addE a b) c).a0, .int .u64 (Fe.addE (Fe.addE a b) c).a1, .int .u64 (Fe.addE (Fe.addE a b) c).a2, .int .u64 (Fe.addE (Fe.addE a b) c).a3, .int .u64 (Fe.addE (Fe.addE a b) c).a4], .agg #[.int .u64 (Fe.addE a (Fe.addE b c)).a0, .int .u64 (Fe.addE a (Fe.addE b c)).a1, .int .u64 (Fe.addE a (Fe.addE b c)).a2, .int .u64 (Fe.addE a (Fe.addE b c)).a3, .int .u64 (Fe.addE a (Fe.addE b c)).a4]] w (PostV (.bool true) w))
    (c4 : ∀ w, Calls Try.prog 21 #[.agg #[.int .u64 (Fe.mulE (Fe.mulE a b) c).a0, .int .u64 (Fe.mulE (Fe.mulE a b) c).a1, .int .u64 (Fe.mulE (Fe.mulE a b) c).a2, .int .u64 (Fe.mulE (Fe.mulE a b) c).a3, .int .u64 (Fe.mulE (Fe.mulE a b) c).a4], .agg #[.int .u64 (Fe.mulE a (Fe.mulE b c)).a0, .int .u64 (Fe.mulE a (Fe.mulE b c)).a1, .int .u64 (Fe.mulE a (Fe.mulE b c)).a2, .int .u64 (Fe.mulE a (Fe.mulE b c)).a3, .int .u64 (Fe.mulE a (Fe.mulE b c)).a4]] w (PostV (.bool true) w))
    (c5 : ∀ w, Calls Try.prog 21 #[.agg #[.int .u64 (Fe.mulE c (Fe.addE a b)).a0, .int .u64 (Fe.mulE c (Fe.addE a b)).a1, .int .u64 (Fe.mulE c (Fe.addE a b)).a2, .int .u64 (Fe.mulE c (Fe.addE a b)).a3, .int .u64 (Fe.mulE c (Fe.addE a b)).a4], .agg #[.int .u64 (Fe.addE (Fe.mulE c a) (Fe.mulE c b)).a0, .int .u64 (Fe.addE (Fe.mulE c a) (Fe.mulE c b)).a1, .int .u64 (Fe.addE (Fe.mulE c a) (Fe.mulE c b)).a2, .int .u64 (Fe.addE (Fe.mulE c a) (Fe.mulE c b)).a3, .int .u64 (Fe.addE (Fe.mulE c a) (Fe.mulE c b)).a4]] w (PostV (.bool true) w))
    (c6 : ∀ w, Calls Try.prog 21 #[.agg #[.int .u64 (Fe.subE (Fe.addE a b) b).a0, .int .u64 (Fe.subE (Fe.addE a b) b).a1, .int .u64 (Fe.subE (Fe.addE a b) b).a2, .int .u64 (Fe.subE (Fe.addE a b) b).a3, .int .u64 (Fe.subE (Fe.addE a b) b).a4], .agg #[.int .u64 a.a0, .int .u64 a.a1, .int .u64 a.a2, .int .u64 a.a3, .int .u64 a.a4]] w (PostV (.bool true) w))
    (c7 : ∀ w, Calls Try.prog 23 #[.agg #[.int .u64 (Fe.addE a (Fe.subE ⟨0, 0, 0, 0, 0⟩ a)).a0, .int .u64 (Fe.addE a (Fe.subE ⟨0, 0, 0, 0, 0⟩ a)).a1, .int .u64 (Fe.addE a (Fe.subE ⟨0, 0, 0, 0, 0⟩ a)).a2, .int .u64 (Fe.addE a (Fe.subE ⟨0, 0, 0, 0, 0⟩ a)).a3, .int .u64 (Fe.addE a (Fe.subE ⟨0, 0, 0, 0, 0⟩ a)).a4]] w (PostV (.bool true) w))
    (c8 : ∀ w, Calls Try.prog 21 #[.agg #[.int .u64 (Fe.mulE a a).a0, .int .u64 (Fe.mulE a a).a1, .int .u64 (Fe.mulE a a).a2, .int .u64 (Fe.mulE a a).a3, .int .u64 (Fe.mulE a a).a4], .agg #[.int .u64 (Fe.mulE a a).a0, .int .u64 (Fe.mulE a a).a1, .int .u64 (Fe.mulE a a).a2, .int .u64 (Fe.mulE a a).a3, .int .u64 (Fe.mulE a a).a4]] w (PostV (.bool true) w))
    (c9 : ∀ w, Calls Try.prog 21 #[.agg #[.int .u64 (Fe.mulE a (⟨1, 0, 0, 0, 0⟩)).a0, .int .u64 (Fe.mulE a (⟨1, 0, 0, 0, 0⟩)).a1, .int .u64 (Fe.mulE a (⟨1, 0, 0, 0, 0⟩)).a2, .int .u64 (Fe.mulE a (⟨1, 0, 0, 0, 0⟩)).a3, .int .u64 (Fe.mulE a (⟨1, 0, 0, 0, 0⟩)).a4], .agg #[.int .u64 a.a0, .int .u64 a.a1, .int .u64 a.a2, .int .u64 a.a3, .int .u64 a.a4]] w (PostV (.bool true) w))
    (i : Fe.E) (hwi : Fe.W i) (z zb : Bool) (cinv : ∀ w, Calls Try.prog 9 #[.agg #[.int .u64 a.a0, .int .u64 a.a1, .int .u64 a.a2, .int .u64 a.a3, .int .u64 a.a4]] w (PostE i w))
    (cai : ∀ w, Calls Try.prog 21 #[.agg #[.int .u64 (Fe.mulE a i).a0, .int .u64 (Fe.mulE a i).a1, .int .u64 (Fe.mulE a i).a2, .int .u64 (Fe.mulE a i).a3, .int .u64 (Fe.mulE a i).a4], .agg #[.int .u64 1, .int .u64 0, .int .u64 0, .int .u64 0, .int .u64 0]] w (PostV (.bool (!z)) w))
    (cza : ∀ w, Calls Try.prog 23 #[.agg #[.int .u64 a.a0, .int .u64 a.a1, .int .u64 a.a2, .int .u64 a.a3, .int .u64 a.a4]] w (PostV (.bool z) w))
    (cmm : ∀ w, Calls Try.prog 21 #[.agg #[.int .u64 (Fe.mulE Fe.m1 Fe.m1).a0, .int .u64 (Fe.mulE Fe.m1 Fe.m1).a1, .int .u64 (Fe.mulE Fe.m1 Fe.m1).a2, .int .u64 (Fe.mulE Fe.m1 Fe.m1).a3, .int .u64 (Fe.mulE Fe.m1 Fe.m1).a4], .agg #[.int .u64 1, .int .u64 0, .int .u64 0, .int .u64 0, .int .u64 0]] w (PostV (.bool true) w))
    (cab : ∀ w, Calls Try.prog 23 #[.agg #[.int .u64 (Fe.mulE a b).a0, .int .u64 (Fe.mulE a b).a1, .int .u64 (Fe.mulE a b).a2, .int .u64 (Fe.mulE a b).a3, .int .u64 (Fe.mulE a b).a4]] w (PostV (.bool (z || zb)) w))
    (czb : ∀ w, Calls Try.prog 23 #[.agg #[.int .u64 b.a0, .int .u64 b.a1, .int .u64 b.a2, .int .u64 b.a3, .int .u64 b.a4]] w (PostV (.bool zb) w))
    (hw7 : ∀ k, Fe.W (xs7 (Fe.addE a b) (Fe.mulE a b) (Fe.mulE c (Fe.addE a b)) (Fe.addE (Fe.mulE c a) (Fe.mulE c b)) i Fe.m1 (Fe.subE a b) k)) (hr7 : rightB 7 (xs7 (Fe.addE a b) (Fe.mulE a b) (Fe.mulE c (Fe.addE a b)) (Fe.addE (Fe.mulE c a) (Fe.mulE c b)) i Fe.m1 (Fe.subE a b)) = true)
    (w : World) : Calls Try.prog 6 #[.agg #[.int .u64 a.a0, .int .u64 a.a1, .int .u64 a.a2, .int .u64 a.a3, .int .u64 a.a4], .agg #[.int .u64 b.a0, .int .u64 b.a1, .int .u64 b.a2, .int .u64 b.a3, .int .u64 b.a4], .agg #[.int .u64 c.a0, .int .u64 c.a1, .int .u64 c.a2, .int .u64 c.a3, .int .u64 c.a4]] w (PostV (.bool true) w) := by
  replace c1 := Lib.hid c1
  replace c2 := Lib.hid c2
  replace c3 := Lib.hid c3
  replace c4 := Lib.hid c4
  replace c5 := Lib.hid c5
  replace c6 := Lib.hid c6
  replace c7 := Lib.hid c7
  replace c8 := Lib.hid c8
  replace c9 := Lib.hid c9
  replace cai := Lib.hid cai
  replace cza := Lib.hid cza
  replace cmm := Lib.hid cmm
  replace cab := Lib.hid cab
  replace czb := Lib.hid czb
  replace cinv := Lib.hid cinv
  replace hw7 := Lib.hid hw7
  replace hr7 := Lib.hid hr7
  replace hr := Lib.hid hr
  go_enter Try.func6, Try.ntmps6
  go_wp2_with fail
  refine calls_at (fun W0 hW => ?_)
  have hA : Blk W0 (w.heap.size) 24 #[.int .u64 a.a0, .int .u64 a.a1, .int .u64 a.a2, .int .u64 a.a3, .int .u64 a.a4] := by rw [hW]; exact ((Blk.new _ _ _).alloc _).alloc _
  have hB : Blk W0 (w.heap.size + 1) 24 #[.int .u64 b.a0, .int .u64 b.a1, .int .u64 b.a2, .int .u64 b.a3, .int .u64 b.a4] := by rw [hW]; exact blk_at (by simp) ((Blk.new _ _ _).alloc _)
  have hC : Blk W0 (w.heap.size + 1 + 1) 24 #[.int .u64 c.a0, .int .u64 c.a1, .int .u64 c.a2, .int .u64 c.a3, .int .u64 c.a4] := by rw [hW]; exact blk_at (by simp) (Blk.new _ _ _)
  have hb0 : Below w.heap.size w W0 := by rw [hW]; go_grown
  clear hW
  refine (awake_c _).mono ?_
  rintro e w1 ⟨rfl, hb1⟩
  replace hA := hA.below hb1
  replace hB := hB.below hb1
  replace hC := hC.below hb1
  replace hb0 := hb0.trans (hb1.mono hb0.size)
  clear hb1
  obtain ⟨p0, p1, p2, p3, p4⟩ := blk5 hA
  obtain ⟨q0, q1, q2, q3, q4⟩ := blk5 hB
  obtain ⟨r0, r1, r2, r3, r4⟩ := blk5 hC
  go_wp2_with fail
  refine calls_at (fun W1 hW => ?_)
  replace hb0 : Below w.heap.size w W1 := by rw [hW]; exact hb0.alloc hb0.size _
  have hS : Blk W1 w1.heap.size 24 #[.int .u64 a.a0, .int .u64 a.a1, .int .u64 a.a2, .int .u64 a.a3, .int .u64 a.a4, .int .u64 b.a0, .int .u64 b.a1, .int .u64 b.a2, .int .u64 b.a3, .int .u64 b.a4, .int .u64 c.a0, .int .u64 c.a1, .int .u64 c.a2, .int .u64 c.a3, .int .u64 c.a4] := by rw [hW]; exact Blk.new _ _ _
  replace hA : Blk W1 (w.heap.size) 24 #[.int .u64 a.a0, .int .u64 a.a1, .int .u64 a.a2, .int .u64 a.a3, .int .u64 a.a4] := by rw [hW]; exact hA.alloc _
  replace hB : Blk W1 (w.heap.size + 1) 24 #[.int .u64 b.a0, .int .u64 b.a1, .int .u64 b.a2, .int .u64 b.a3, .int .u64 b.a4] := by rw [hW]; exact hB.alloc _
  replace hC : Blk W1 (w.heap.size + 1 + 1) 24 #[.int .u64 c.a0, .int .u64 c.a1, .int .u64 c.a2, .int .u64 c.a3, .int .u64 c.a4] := by rw [hW]; exact hC.alloc _
  clear hW p0 p1 p2 p3 p4 q0 q1 q2 q3 q4 r0 r1 r2 r3 r4
  refine (right_c w1.heap.size 3 3 (by decide) (xs3 a b c) (fun i => by unfold xs3; split <;> assumption) _ hS.lt (cells3 a b c hS)).mono ?_
  rintro e w2 ⟨rfl, hb2⟩
  replace hA := hA.below hb2
  replace hB := hB.below hb2
  replace hC := hC.below hb2
  replace hb0 := hb0.trans (hb2.mono hb0.size)
  clear hb2 hS
  rw [hr.out]
  generalize w1.heap.size = gs
  have hle : w.heap.size + 1 + 1 < w2.heap.size := hC.lt
  go_wp2
  refine wp_region_grow2 8 (fun k => (Nat.ble 7 k && Nat.ble k 8) || (Nat.ble 21 k && Nat.ble k 26)) _ [] (fun j x' q => (fr5L a b w2.heap.size).getD j (fun _ _ => True) x' q) (fun j => j == 6 || j == 7) (fun f => #[.agg #[.int .u64 a.a0, .int .u64 a.a1, .int .u64 a.a2, .int .u64 a.a3, .int .u64 a.a4], .agg #[.int .u64 b.a0, .int .u64 b.a1, .int .u64 b.a2, .int .u64 b.a3, .int .u64 b.a4], .agg #[.int .u64 c.a0, .int .u64 c.a1, .int .u64 c.a2, .int .u64 c.a3, .int .u64 c.a4], .pointer (some ⟨w.heap.size, 0, none⟩), .pointer (some ⟨w.heap.size + 1, 0, none⟩), .pointer (some ⟨w.heap.size + 1 + 1, 0, none⟩), .bool false, f 7, f 8, undef, undef, undef, undef, .bool true, .bool false, .agg #[.int .u64 a.a0, .int .u64 a.a1, .int .u64 a.a2, .int .u64 a.a3, .int .u64 a.a4], .agg #[.int .u64 b.a0, .int .u64 b.a1, .int .u64 b.a2, .int .u64 b.a3, .int .u64 b.a4], .agg #[.int .u64 c.a0, .int .u64 c.a1, .int .u64 c.a2, .int .u64 c.a3, .int .u64 c.a4], .slice (some ⟨gs, 0, none⟩) 3 3, .bool true, .bool false, f 21, f 22, f 23, f 24, f 25, f 26, undef, undef, undef, undef, undef, undef, undef, undef, undef, undef, undef, undef, undef, undef, undef, undef, undef, undef, undef, undef, undef, undef, undef, undef, undef, undef, undef, undef, undef, undef, undef, undef, undef, undef, undef, undef, undef, undef, undef, undef, undef, undef, undef, undef, undef, undef, undef, undef, undef, undef, undef, undef, undef, undef, undef, undef, undef, undef, undef, undef, undef, undef, undef, undef, undef, undef, undef, undef, undef, undef, undef, undef, undef, undef, undef, undef, undef, undef, undef, undef, undef, undef, undef, undef, undef, undef, undef, undef, undef, undef, undef, undef, undef, undef, undef, undef, undef, undef, undef, undef, undef, undef, undef, undef, undef, undef, undef, undef, undef, undef, undef, undef, undef, undef, undef, undef, undef, undef, undef, undef, undef, undef, undef, undef, undef, undef, undef, undef, undef, undef, undef]) (fun f => rfl) (by kernel_rfl) (by kernel_rfl) (by kernel_rfl) (by kernel_rfl) (by kernel_rfl) (fr5S _ _ _) (fr5O _ _ _) ?_ ?_
  · refine steps2_cons ?_ ?_
    · intro f w1 hb hd Q hK
      clear hd
      have hK := Lib.hid hK
      obtain ⟨c0, c1, c2, c3, c4⟩ := blk5 (hA.below hb)
      go_wp2
      exact hK.out _ _ rfl (Below.refl _ _) (fun h => by cases h)
    refine steps2_cons ?_ ?_
    · intro f w1 hb hd Q hK
      clear hd
      have hK := Lib.hid hK
      obtain ⟨c0, c1, c2, c3, c4⟩ := blk5 (hB.below hb)
      go_wp2
      exact hK.out _ _ rfl (Below.refl _ _) (fun h => by cases h)
    refine steps2_cons ?_ ?_
    · intro f w1 hb hd Q hK
      have e21 : f 21 = .agg #[.int .u64 a.a0, .int .u64 a.a1, .int .u64 a.a2, .int .u64 a.a3, .int .u64 a.a4] := hd.1 rfl
      have e22 : f 22 = .agg #[.int .u64 b.a0, .int .u64 b.a1, .int .u64 b.a2, .int .u64 b.a3, .int .u64 b.a4] := hd.2.1 rfl
      clear hd
      simp only [e21, e22] at hK
      have hK := Lib.hid hK
      go_wp2_with fail
      refine ((add_E a b) _).mono ?_
      rintro e w2 ⟨rfl, hb2⟩
      go_wp2
      exact hK.out _ _ rfl hb2 (fun h => by cases h)
    refine steps2_cons ?_ ?_
    · intro f w1 hb hd Q hK
      clear hd
      have hK := Lib.hid hK
      obtain ⟨c0, c1, c2, c3, c4⟩ := blk5 (hA.below hb)
      go_wp2
      exact hK.out _ _ rfl (Below.refl _ _) (fun h => by cases h)
    refine steps2_cons ?_ ?_
    · intro f w1 hb hd Q hK
      clear hd
      have hK := Lib.hid hK
      obtain ⟨c0, c1, c2, c3, c4⟩ := blk5 (hB.below hb)
      go_wp2
      exact hK.out _ _ rfl (Below.refl _ _) (fun h => by cases h)
    refine steps2_cons ?_ ?_
    · intro f w1 hb hd Q hK
      have e24 : f 24 = .agg #[.int .u64 a.a0, .int .u64 a.a1, .int .u64 a.a2, .int .u64 a.a3, .int .u64 a.a4] := hd.1 rfl
      have e25 : f 25 = .agg #[.int .u64 b.a0, .int .u64 b.a1, .int .u64 b.a2, .int .u64 b.a3, .int .u64 b.a4] := hd.2.1 rfl
      clear hd
      simp only [e24, e25] at hK
      have hK := Lib.hid hK
      go_wp2_with fail
      refine ((mul_E a b hwa hwb) _).mono ?_
      rintro e w2 ⟨rfl, hb2⟩
      go_wp2
      exact hK.out _ _ rfl hb2 (fun h => by cases h)
    refine steps2_cons ?_ ?_
    · intro f w1 hb hd Q hK
      clear hd
      have hK := Lib.hid hK
      have hsz := hb.size
      go_wp2
      exact hK.out _ _ ⟨_, rfl, hsz, Blk.new _ _ _⟩ ((Below.refl _ _).alloc (Nat.le_refl _) _) (fun _ => ⟨_, rfl, Nat.le_refl _⟩)
    refine steps2_cons ?_ ?_
    · intro f w1 hb hd Q hK
      clear hd
      have hK := Lib.hid hK
      have hsz := hb.size
      go_wp2
      exact hK.out _ _ ⟨_, rfl, hsz, Blk.new _ _ _⟩ ((Below.refl _ _).alloc (Nat.le_refl _) _) (fun _ => ⟨_, rfl, Nat.le_refl _⟩)
    trivial
  · intro f5 y5 hb hf hne
    obtain ⟨g7, d7, lo7, bk7⟩ : NewB w2.heap.size 24 #[.int .u64 0, .int .u64 0, .int .u64 0, .int .u64 0, .int .u64 0] (f5 7) y5 := hf 6 _ _ (by decide) rfl rfl
    obtain ⟨g8, d8, lo8, bk8⟩ : NewB w2.heap.size 24 #[.int .u64 0, .int .u64 0, .int .u64 0, .int .u64 0, .int .u64 0] (f5 8) y5 := hf 7 _ _ (by decide) rfl rfl
    have d23 : f5 23 = .agg #[.int .u64 (Fe.addE a b).a0, .int .u64 (Fe.addE a b).a1, .int .u64 (Fe.addE a b).a2, .int .u64 (Fe.addE a b).a3, .int .u64 (Fe.addE a b).a4] := hf 2 _ _ (by decide) rfl rfl
    have d26 : f5 26 = .agg #[.int .u64 (Fe.mulE a b).a0, .int .u64 (Fe.mulE a b).a1, .int .u64 (Fe.mulE a b).a2, .int .u64 (Fe.mulE a b).a3, .int .u64 (Fe.mulE a b).a4] := hf 5 _ _ (by decide) rfl rfl
    have hne' : g7 ≠ g8 := by
      have := hne 6 7 _ _ _ _ (by decide) (by decide) (by decide) rfl rfl rfl rfl rfl rfl
      rw [d7, d8] at this
      exact fun h => this (by rw [h])
    clear hf hne
    simp only [d7, d8, d23, d26]
    refine wpList_store_blk rfl _ _ _ rfl g7 24 #[.int .u64 0, .int .u64 0, .int .u64 0, .int .u64 0, .int .u64 0] #[.int .u64 (Fe.addE a b).a0, .int .u64 (Fe.addE a b).a1, .int .u64 (Fe.addE a b).a2, .int .u64 (Fe.addE a b).a3, .int .u64 (Fe.addE a b).a4] rfl rfl bk7 rfl (by kernel_rfl) (by kernel_rfl) ?_
    intro w3 hnew hgr hsz
    replace hA := (hA.below hb).grown hgr (by simp; omega)
    replace hB := (hB.below hb).grown hgr (by simp; omega)
    replace hC := (hC.below hb).grown hgr (by simp; omega)
    have hb0 := (hb0.trans (hb.mono hb0.size)).grown hgr (Nat.le_trans hb0.size hb.size) (fun k h => by injection h; omega)
    replace bk8 := bk8.grown hgr (fun h => hne' (by injection h with h; exact h.symm))
    have hS := hnew
    clear hnew hgr hsz hb
    refine wpList_store_blk rfl _ _ _ rfl g8 24 #[.int .u64 0, .int .u64 0, .int .u64 0, .int .u64 0, .int .u64 0] #[.int .u64 (Fe.mulE a b).a0, .int .u64 (Fe.mulE a b).a1, .int .u64 (Fe.mulE a b).a2, .int .u64 (Fe.mulE a b).a3, .int .u64 (Fe.mulE a b).a4] rfl rfl bk8 rfl (by kernel_rfl) (by kernel_rfl) ?_
    intro w4 hnew hgr hsz
    refine wpList_nil ?_
    replace hA := hA.grown hgr (by simp; omega)
    replace hB := hB.grown hgr (by simp; omega)
    replace hC := hC.grown hgr (by simp; omega)
    replace hb0 := hb0.grown hgr (by have := hA.lt; omega) (fun k h => by injection h; omega)
    replace hS := hS.grown hgr (fun h => hne' (by injection h))
    have hP := hnew
    have hSlt := hS.lt
    have hPlt := hP.lt
    clear hnew hgr hsz bk7 bk8 d7 d8 d23 d26
    go_wp2
    refine wp_region_grow2 38 (fun k => (Nat.ble 27 k && Nat.ble k 64)) _ [] (fun j x' q => (fr6L a b c).getD j (fun _ _ => True) x' q) (fun _ => false) (fun f => #[.agg #[.int .u64 a.a0, .int .u64 a.a1, .int .u64 a.a2, .int .u64 a.a3, .int .u64 a.a4], .agg #[.int .u64 b.a0, .int .u64 b.a1, .int .u64 b.a2, .int .u64 b.a3, .int .u64 b.a4], .agg #[.int .u64 c.a0, .int .u64 c.a1, .int .u64 c.a2, .int .u64 c.a3, .int .u64 c.a4], .pointer (some ⟨w.heap.size, 0, none⟩), .pointer (some ⟨w.heap.size + 1, 0, none⟩), .pointer (some ⟨w.heap.size + 1 + 1, 0, none⟩), .bool false, .pointer (some ⟨g7, 0, none⟩), .pointer (some ⟨g8, 0, none⟩), undef, undef, undef, undef, .bool true, .bool false, .agg #[.int .u64 a.a0, .int .u64 a.a1, .int .u64 a.a2, .int .u64 a.a3, .int .u64 a.a4], .agg #[.int .u64 b.a0, .int .u64 b.a1, .int .u64 b.a2, .int .u64 b.a3, .int .u64 b.a4], .agg #[.int .u64 c.a0, .int .u64 c.a1, .int .u64 c.a2, .int .u64 c.a3, .int .u64 c.a4], .slice (some ⟨gs, 0, none⟩) 3 3, .bool true, .bool false, f5 21, f5 22, .agg #[.int .u64 (Fe.addE a b).a0, .int .u64 (Fe.addE a b).a1, .int .u64 (Fe.addE a b).a2, .int .u64 (Fe.addE a b).a3, .int .u64 (Fe.addE a b).a4], f5 24, f5 25, .agg #[.int .u64 (Fe.mulE a b).a0, .int .u64 (Fe.mulE a b).a1, .int .u64 (Fe.mulE a b).a2, .int .u64 (Fe.mulE a b).a3, .int .u64 (Fe.mulE a b).a4], f 27, f 28, f 29, f 30, f 31, f 32, f 33, f 34, f 35, f 36, f 37, f 38, f 39, f 40, f 41, f 42, f 43, f 44, f 45, f 46, f 47, f 48, f 49, f 50, f 51, f 52, f 53, f 54, f 55, f 56, f 57, f 58, f 59, f 60, f 61, f 62, f 63, f 64, undef, undef, undef, undef, undef, undef, undef, undef, undef, undef, undef, undef, undef, undef, undef, undef, undef, undef, undef, undef, undef, undef, undef, undef, undef, undef, undef, undef, undef, undef, undef, undef, undef, undef, undef, undef, undef, undef, undef, undef, undef, undef, undef, undef, undef, undef, undef, undef, undef, undef, undef, undef, undef, undef, undef, undef, undef, undef, undef, undef, undef, undef, undef, undef, undef, undef, undef, undef, undef, undef, undef, undef, undef, undef, undef, undef, undef, undef, undef, undef, undef, undef, undef, undef, undef, undef, undef, undef, undef, undef, undef, undef, undef]) (fun f => rfl) (by kernel_rfl) (by kernel_rfl) (by kernel_rfl) (by kernel_rfl) (by kernel_rfl) (fr6S _ _ _) (fun _ _ _ h => by cases h) ?_ ?_
    · refine steps2_cons ?_ ?_
      · intro f w1 hb hd Q hK
        clear hd
        have hK := Lib.hid hK
        obtain ⟨c0, c1, c2, c3, c4⟩ := blk5 (hS.below hb)
        go_wp2
        exact hK.out _ _ rfl (Below.refl _ _) (fun h => by cases h)
      refine steps2_cons ?_ ?_
      · intro f w1 hb hd Q hK
        clear hd
        have hK := Lib.hid hK
        obtain ⟨c0, c1, c2, c3, c4⟩ := blk5 (hB.below hb)
        go_wp2
        exact hK.out _ _ rfl (Below.refl _ _) (fun h => by cases h)
      refine steps2_cons ?_ ?_
      · intro f w1 hb hd Q hK
        clear hd
        have hK := Lib.hid hK
        obtain ⟨c0, c1, c2, c3, c4⟩ := blk5 (hA.below hb)
        go_wp2
        exact hK.out _ _ rfl (Below.refl _ _) (fun h => by cases h)
      refine steps2_cons ?_ ?_
      · intro f w1 hb hd Q hK
        have e28 : f 28 = .agg #[.int .u64 b.a0, .int .u64 b.a1, .int .u64 b.a2, .int .u64 b.a3, .int .u64 b.a4] := hd.1 rfl
        have e29 : f 29 = .agg #[.int .u64 a.a0, .int .u64 a.a1, .int .u64 a.a2, .int .u64 a.a3, .int .u64 a.a4] := hd.2.1 rfl
        clear hd
        simp only [e28, e29] at hK
        have hK := Lib.hid hK
        go_wp2_with fail
        refine ((add_E b a) _).mono ?_
        rintro e w2 ⟨rfl, hb2⟩
        go_wp2
        exact hK.out _ _ rfl hb2 (fun h => by cases h)
      refine steps2_cons ?_ ?_
      · intro f w1 hb hd Q hK
        have e27 : f 27 = .agg #[.int .u64 (Fe.addE a b).a0, .int .u64 (Fe.addE a b).a1, .int .u64 (Fe.addE a b).a2, .int .u64 (Fe.addE a b).a3, .int .u64 (Fe.addE a b).a4] := hd.1 rfl
        have e30 : f 30 = .agg #[.int .u64 (Fe.addE b a).a0, .int .u64 (Fe.addE b a).a1, .int .u64 (Fe.addE b a).a2, .int .u64 (Fe.addE b a).a3, .int .u64 (Fe.addE b a).a4] := hd.2.1 rfl
        clear hd
        simp only [e27, e30] at hK
        have hK := Lib.hid hK
        go_wp2_with fail
        refine (c1.out _).mono ?_
        rintro e w2 ⟨rfl, hb2⟩
        go_wp2
        exact hK.out _ _ rfl hb2 (fun h => by cases h)
      refine steps2_cons ?_ ?_
      · intro f w1 hb hd Q hK
        have e31 : f 31 = .bool true := hd.1 rfl
        clear hd
        simp only [e31] at hK
        have hK := Lib.hid hK
        go_wp2
        exact hK.out _ _ rfl (Below.refl _ _) (fun h => by cases h)
      refine steps2_cons ?_ ?_
      · intro f w1 hb hd Q hK
        have e32 : f 32 = .bool false := hd.1 rfl
        clear hd
        simp only [e32] at hK
        have hK := Lib.hid hK
        go_wp2
        exact hK.out _ _ rfl (Below.refl _ _) (fun h => by cases h)
      refine steps2_cons ?_ ?_
      · intro f w1 hb hd Q hK
        have e33 : f 33 = .bool false := hd.1 rfl
        clear hd
        simp only [e33] at hK
        have hK := Lib.hid hK
        obtain ⟨c0, c1, c2, c3, c4⟩ := blk5 (hP.below hb)
        go_wp2
        exact hK.out _ _ rfl (Below.refl _ _) (fun h => by cases h)
      refine steps2_cons ?_ ?_
      · intro f w1 hb hd Q hK
        have e33 : f 33 = .bool false := hd.1 rfl
        clear hd
        simp only [e33] at hK
        have hK := Lib.hid hK
        obtain ⟨c0, c1, c2, c3, c4⟩ := blk5 (hB.below hb)
        go_wp2
        exact hK.out _ _ rfl (Below.refl _ _) (fun h => by cases h)
      refine steps2_cons ?_ ?_
      · intro f w1 hb hd Q hK
        have e33 : f 33 = .bool false := hd.1 rfl
        clear hd
        simp only [e33] at hK
        have hK := Lib.hid hK
        obtain ⟨c0, c1, c2, c3, c4⟩ := blk5 (hA.below hb)
        go_wp2
        exact hK.out _ _ rfl (Below.refl _ _) (fun h => by cases h)
      refine steps2_cons ?_ ?_
      · intro f w1 hb hd Q hK
        have e35 : f 35 = .agg #[.int .u64 b.a0, .int .u64 b.a1, .int .u64 b.a2, .int .u64 b.a3, .int .u64 b.a4] := hd.1 rfl
        have e36 : f 36 = .agg #[.int .u64 a.a0, .int .u64 a.a1, .int .u64 a.a2, .int .u64 a.a3, .int .u64 a.a4] := hd.2.1 rfl
        have e33 : f 33 = .bool false := hd.2.2.1 rfl
        clear hd
        simp only [e35, e36, e33] at hK
        have hK := Lib.hid hK
        go_wp2_with fail
        refine ((mul_E b a hwb hwa) _).mono ?_
        rintro e w2 ⟨rfl, hb2⟩
        go_wp2
        exact hK.out _ _ rfl hb2 (fun h => by cases h)
      refine steps2_cons ?_ ?_
      · intro f w1 hb hd Q hK
        have e34 : f 34 = .agg #[.int .u64 (Fe.mulE a b).a0, .int .u64 (Fe.mulE a b).a1, .int .u64 (Fe.mulE a b).a2, .int .u64 (Fe.mulE a b).a3, .int .u64 (Fe.mulE a b).a4] := hd.1 rfl
        have e37 : f 37 = .agg #[.int .u64 (Fe.mulE b a).a0, .int .u64 (Fe.mulE b a).a1, .int .u64 (Fe.mulE b a).a2, .int .u64 (Fe.mulE b a).a3, .int .u64 (Fe.mulE b a).a4] := hd.2.1 rfl
        have e33 : f 33 = .bool false := hd.2.2.2.1 rfl
        clear hd
        simp only [e34, e37, e33] at hK
        have hK := Lib.hid hK
        go_wp2_with fail
        refine (c2.out _).mono ?_
        rintro e w2 ⟨rfl, hb2⟩
        go_wp2
        exact hK.out _ _ rfl hb2 (fun h => by cases h)
      refine steps2_cons ?_ ?_
      · intro f w1 hb hd Q hK
        have e38 : f 38 = .bool true := hd.1 rfl
        have e33 : f 33 = .bool false := hd.2.1 rfl
        clear hd
        simp only [e38, e33] at hK
        have hK := Lib.hid hK
        go_wp2
        exact hK.out _ _ rfl (Below.refl _ _) (fun h => by cases h)
      refine steps2_cons ?_ ?_
      · intro f w1 hb hd Q hK
        have e33 : f 33 = .bool false := hd.1 rfl
        have e39 : f 39 = .bool false := hd.2.1 rfl
        clear hd
        simp only [e33, e39] at hK
        have hK := Lib.hid hK
        go_wp2
        exact hK.out _ _ rfl (Below.refl _ _) (fun h => by cases h)
      refine steps2_cons ?_ ?_
      · intro f w1 hb hd Q hK
        have e40 : f 40 = .bool false := hd.1 rfl
        clear hd
        simp only [e40] at hK
        have hK := Lib.hid hK
        go_wp2
        exact hK.out _ _ rfl (Below.refl _ _) (fun h => by cases h)
      refine steps2_cons ?_ ?_
      · intro f w1 hb hd Q hK
        have e41 : f 41 = .bool false := hd.1 rfl
        clear hd
        simp only [e41] at hK
        have hK := Lib.hid hK
        obtain ⟨c0, c1, c2, c3, c4⟩ := blk5 (hS.below hb)
        go_wp2
        exact hK.out _ _ rfl (Below.refl _ _) (fun h => by cases h)
      refine steps2_cons ?_ ?_
      · intro f w1 hb hd Q hK
        have e41 : f 41 = .bool false := hd.1 rfl
        clear hd
        simp only [e41] at hK
        have hK := Lib.hid hK
        obtain ⟨c0, c1, c2, c3, c4⟩ := blk5 (hC.below hb)
        go_wp2
        exact hK.out _ _ rfl (Below.refl _ _) (fun h => by cases h)
      refine steps2_cons ?_ ?_
      · intro f w1 hb hd Q hK
        have e42 : f 42 = .agg #[.int .u64 (Fe.addE a b).a0, .int .u64 (Fe.addE a b).a1, .int .u64 (Fe.addE a b).a2, .int .u64 (Fe.addE a b).a3, .int .u64 (Fe.addE a b).a4] := hd.1 rfl
        have e43 : f 43 = .agg #[.int .u64 c.a0, .int .u64 c.a1, .int .u64 c.a2, .int .u64 c.a3, .int .u64 c.a4] := hd.2.1 rfl
        have e41 : f 41 = .bool false := hd.2.2.1 rfl
        clear hd
        simp only [e42, e43, e41] at hK
        have hK := Lib.hid hK
        go_wp2_with fail
        refine ((add_E (Fe.addE a b) c) _).mono ?_
        rintro e w2 ⟨rfl, hb2⟩
        go_wp2
        exact hK.out _ _ rfl hb2 (fun h => by cases h)
      refine steps2_cons ?_ ?_
      · intro f w1 hb hd Q hK
        have e41 : f 41 = .bool false := hd.1 rfl
        clear hd
        simp only [e41] at hK
        have hK := Lib.hid hK
        obtain ⟨c0, c1, c2, c3, c4⟩ := blk5 (hA.below hb)
        go_wp2
        exact hK.out _ _ rfl (Below.refl _ _) (fun h => by cases h)
      refine steps2_cons ?_ ?_
      · intro f w1 hb hd Q hK
        have e41 : f 41 = .bool false := hd.1 rfl
        clear hd
        simp only [e41] at hK
        have hK := Lib.hid hK
        obtain ⟨c0, c1, c2, c3, c4⟩ := blk5 (hB.below hb)
        go_wp2
        exact hK.out _ _ rfl (Below.refl _ _) (fun h => by cases h)
      refine steps2_cons ?_ ?_
      · intro f w1 hb hd Q hK
        have e41 : f 41 = .bool false := hd.1 rfl
        clear hd
        simp only [e41] at hK
        have hK := Lib.hid hK
        obtain ⟨c0, c1, c2, c3, c4⟩ := blk5 (hC.below hb)
        go_wp2
        exact hK.out _ _ rfl (Below.refl _ _) (fun h => by cases h)
      refine steps2_cons ?_ ?_
      · intro f w1 hb hd Q hK
        have e46 : f 46 = .agg #[.int .u64 b.a0, .int .u64 b.a1, .int .u64 b.a2, .int .u64 b.a3, .int .u64 b.a4] := hd.1 rfl
        have e47 : f 47 = .agg #[.int .u64 c.a0, .int .u64 c.a1, .int .u64 c.a2, .int .u64 c.a3, .int .u64 c.a4] := hd.2.1 rfl
        have e41 : f 41 = .bool false := hd.2.2.2.1 rfl
        clear hd
        simp only [e46, e47, e41] at hK
        have hK := Lib.hid hK
        go_wp2_with fail
        refine ((add_E b c) _).mono ?_
        rintro e w2 ⟨rfl, hb2⟩
        go_wp2
        exact hK.out _ _ rfl hb2 (fun h => by cases h)
      refine steps2_cons ?_ ?_
      · intro f w1 hb hd Q hK
        have e45 : f 45 = .agg #[.int .u64 a.a0, .int .u64 a.a1, .int .u64 a.a2, .int .u64 a.a3, .int .u64 a.a4] := hd.1 rfl
        have e48 : f 48 = .agg #[.int .u64 (Fe.addE b c).a0, .int .u64 (Fe.addE b c).a1, .int .u64 (Fe.addE b c).a2, .int .u64 (Fe.addE b c).a3, .int .u64 (Fe.addE b c).a4] := hd.2.1 rfl
        have e41 : f 41 = .bool false := hd.2.2.2.1 rfl
        clear hd
        simp only [e45, e48, e41] at hK
        have hK := Lib.hid hK
        go_wp2_with fail
        refine ((add_E a (Fe.addE b c)) _).mono ?_
        rintro e w2 ⟨rfl, hb2⟩
        go_wp2
        exact hK.out _ _ rfl hb2 (fun h => by cases h)
      refine steps2_cons ?_ ?_
      · intro f w1 hb hd Q hK
        have e44 : f 44 = .agg #[.int .u64 (Fe.addE (Fe.addE a b) c).a0, .int .u64 (Fe.addE (Fe.addE a b) c).a1, .int .u64 (Fe.addE (Fe.addE a b) c).a2, .int .u64 (Fe.addE (Fe.addE a b) c).a3, .int .u64 (Fe.addE (Fe.addE a b) c).a4] := hd.1 rfl
        have e49 : f 49 = .agg #[.int .u64 (Fe.addE a (Fe.addE b c)).a0, .int .u64 (Fe.addE a (Fe.addE b c)).a1, .int .u64 (Fe.addE a (Fe.addE b c)).a2, .int .u64 (Fe.addE a (Fe.addE b c)).a3, .int .u64 (Fe.addE a (Fe.addE b c)).a4] := hd.2.1 rfl
        have e41 : f 41 = .bool false := hd.2.2.2.1 rfl
        clear hd
        simp only [e44, e49, e41] at hK
        have hK := Lib.hid hK
        go_wp2_with fail
        refine (c3.out _).mono ?_
        rintro e w2 ⟨rfl, hb2⟩
        go_wp2
        exact hK.out _ _ rfl hb2 (fun h => by cases h)
      refine steps2_cons ?_ ?_
      · intro f w1 hb hd Q hK
        have e50 : f 50 = .bool true := hd.1 rfl
        have e41 : f 41 = .bool false := hd.2.1 rfl
        clear hd
        simp only [e50, e41] at hK
        have hK := Lib.hid hK
        go_wp2
        exact hK.out _ _ rfl (Below.refl _ _) (fun h => by cases h)
      refine steps2_cons ?_ ?_
      · intro f w1 hb hd Q hK
        have e41 : f 41 = .bool false := hd.1 rfl
        have e51 : f 51 = .bool false := hd.2.1 rfl
        clear hd
        simp only [e41, e51] at hK
        have hK := Lib.hid hK
        go_wp2
        exact hK.out _ _ rfl (Below.refl _ _) (fun h => by cases h)
      refine steps2_cons ?_ ?_
      · intro f w1 hb hd Q hK
        have e52 : f 52 = .bool false := hd.1 rfl
        clear hd
        simp only [e52] at hK
        have hK := Lib.hid hK
        go_wp2
        exact hK.out _ _ rfl (Below.refl _ _) (fun h => by cases h)
      refine steps2_cons ?_ ?_
      · intro f w1 hb hd Q hK
        have e53 : f 53 = .bool false := hd.1 rfl
        clear hd
        simp only [e53] at hK
        have hK := Lib.hid hK
        obtain ⟨c0, c1, c2, c3, c4⟩ := blk5 (hP.below hb)
        go_wp2
        exact hK.out _ _ rfl (Below.refl _ _) (fun h => by cases h)
      refine steps2_cons ?_ ?_
      · intro f w1 hb hd Q hK
        have e53 : f 53 = .bool false := hd.1 rfl
        clear hd
        simp only [e53] at hK
        have hK := Lib.hid hK
        obtain ⟨c0, c1, c2, c3, c4⟩ := blk5 (hC.below hb)
        go_wp2
        exact hK.out _ _ rfl (Below.refl _ _) (fun h => by cases h)
      refine steps2_cons ?_ ?_
      · intro f w1 hb hd Q hK
        have e54 : f 54 = .agg #[.int .u64 (Fe.mulE a b).a0, .int .u64 (Fe.mulE a b).a1, .int .u64 (Fe.mulE a b).a2, .int .u64 (Fe.mulE a b).a3, .int .u64 (Fe.mulE a b).a4] := hd.1 rfl
        have e55 : f 55 = .agg #[.int .u64 c.a0, .int .u64 c.a1, .int .u64 c.a2, .int .u64 c.a3, .int .u64 c.a4] := hd.2.1 rfl
        have e53 : f 53 = .bool false := hd.2.2.1 rfl
        clear hd
        simp only [e54, e55, e53] at hK
        have hK := Lib.hid hK
        go_wp2_with fail
        refine ((mul_E (Fe.mulE a b) c (Fe.mulE_w _ _) hwc) _).mono ?_
        rintro e w2 ⟨rfl, hb2⟩
        go_wp2
        exact hK.out _ _ rfl hb2 (fun h => by cases h)
      refine steps2_cons ?_ ?_
      · intro f w1 hb hd Q hK
        have e53 : f 53 = .bool false := hd.1 rfl
        clear hd
        simp only [e53] at hK
        have hK := Lib.hid hK
        obtain ⟨c0, c1, c2, c3, c4⟩ := blk5 (hA.below hb)
        go_wp2
        exact hK.out _ _ rfl (Below.refl _ _) (fun h => by cases h)
      refine steps2_cons ?_ ?_
      · intro f w1 hb hd Q hK
        have e53 : f 53 = .bool false := hd.1 rfl
        clear hd
        simp only [e53] at hK
        have hK := Lib.hid hK
        obtain ⟨c0, c1, c2, c3, c4⟩ := blk5 (hB.below hb)
        go_wp2
        exact hK.out _ _ rfl (Below.refl _ _) (fun h => by cases h)
      refine steps2_cons ?_ ?_
      · intro f w1 hb hd Q hK
        have e53 : f 53 = .bool false := hd.1 rfl
        clear hd
        simp only [e53] at hK
        have hK := Lib.hid hK
        obtain ⟨c0, c1, c2, c3, c4⟩ := blk5 (hC.below hb)
        go_wp2
        exact hK.out _ _ rfl (Below.refl _ _) (fun h => by cases h)
      refine steps2_cons ?_ ?_
      · intro f w1 hb hd Q hK
        have e58 : f 58 = .agg #[.int .u64 b.a0, .int .u64 b.a1, .int .u64 b.a2, .int .u64 b.a3, .int .u64 b.a4] := hd.1 rfl
        have e59 : f 59 = .agg #[.int .u64 c.a0, .int .u64 c.a1, .int .u64 c.a2, .int .u64 c.a3, .int .u64 c.a4] := hd.2.1 rfl
        have e53 : f 53 = .bool false := hd.2.2.2.1 rfl
        clear hd
        simp only [e58, e59, e53] at hK
        have hK := Lib.hid hK
        go_wp2_with fail
        refine ((mul_E b c hwb hwc) _).mono ?_
        rintro e w2 ⟨rfl, hb2⟩
        go_wp2
        exact hK.out _ _ rfl hb2 (fun h => by cases h)
      refine steps2_cons ?_ ?_
      · intro f w1 hb hd Q hK
        have e57 : f 57 = .agg #[.int .u64 a.a0, .int .u64 a.a1, .int .u64 a.a2, .int .u64 a.a3, .int .u64 a.a4] := hd.1 rfl
        have e60 : f 60 = .agg #[.int .u64 (Fe.mulE b c).a0, .int .u64 (Fe.mulE b c).a1, .int .u64 (Fe.mulE b c).a2, .int .u64 (Fe.mulE b c).a3, .int .u64 (Fe.mulE b c).a4] := hd.2.1 rfl
        have e53 : f 53 = .bool false := hd.2.2.2.1 rfl
        clear hd
        simp only [e57, e60, e53] at hK
        have hK := Lib.hid hK
        go_wp2_with fail
        refine ((mul_E a (Fe.mulE b c) hwa (Fe.mulE_w _ _)) _).mono ?_
        rintro e w2 ⟨rfl, hb2⟩
        go_wp2
        exact hK.out _ _ rfl hb2 (fun h => by cases h)
      refine steps2_cons ?_ ?_
      · intro f w1 hb hd Q hK
        have e56 : f 56 = .agg #[.int .u64 (Fe.mulE (Fe.mulE a b) c).a0, .int .u64 (Fe.mulE (Fe.mulE a b) c).a1, .int .u64 (Fe.mulE (Fe.mulE a b) c).a2, .int .u64 (Fe.mulE (Fe.mulE a b) c).a3, .int .u64 (Fe.mulE (Fe.mulE a b) c).a4] := hd.1 rfl
        have e61 : f 61 = .agg #[.int .u64 (Fe.mulE a (Fe.mulE b c)).a0, .int .u64 (Fe.mulE a (Fe.mulE b c)).a1, .int .u64 (Fe.mulE a (Fe.mulE b c)).a2, .int .u64 (Fe.mulE a (Fe.mulE b c)).a3, .int .u64 (Fe.mulE a (Fe.mulE b c)).a4] := hd.2.1 rfl
        have e53 : f 53 = .bool false := hd.2.2.2.1 rfl
        clear hd
        simp only [e56, e61, e53] at hK
        have hK := Lib.hid hK
        go_wp2_with fail
        refine (c4.out _).mono ?_
        rintro e w2 ⟨rfl, hb2⟩
        go_wp2
        exact hK.out _ _ rfl hb2 (fun h => by cases h)
      refine steps2_cons ?_ ?_
      · intro f w1 hb hd Q hK
        have e62 : f 62 = .bool true := hd.1 rfl
        have e53 : f 53 = .bool false := hd.2.1 rfl
        clear hd
        simp only [e62, e53] at hK
        have hK := Lib.hid hK
        go_wp2
        exact hK.out _ _ rfl (Below.refl _ _) (fun h => by cases h)
      refine steps2_cons ?_ ?_
      · intro f w1 hb hd Q hK
        have e53 : f 53 = .bool false := hd.1 rfl
        have e63 : f 63 = .bool false := hd.2.1 rfl
        clear hd
        simp only [e53, e63] at hK
        have hK := Lib.hid hK
        go_wp2
        exact hK.out _ _ rfl (Below.refl _ _) (fun h => by cases h)
      trivial
    · intro f6 y6 hb hf hne
      refine wpList_nil ?_
      have d64 : f6 64 = .bool false := hf 37 _ _ (by decide) rfl rfl
      clear hf hne
      replace hA := hA.below hb
      replace hB := hB.below hb
      replace hC := hC.below hb
      replace hS := hS.below hb
      replace hP := hP.below hb
      replace hb0 := hb0.trans (hb.mono hb0.size)
      clear hb
      simp only [d64]
      clear d64
      have hSlt := hS.lt
      have hPlt := hP.lt
      go_wp2
      refine wp_region_grow2 12 (fun k => (Nat.ble 9 k && Nat.ble k 10) || (Nat.ble 65 k && Nat.ble k 74)) _ [] (fun j x' q => (fr8L a b c y6.heap.size).getD j (fun _ _ => True) x' q) (fun j => j == 10 || j == 11) (fun f => #[.agg #[.int .u64 a.a0, .int .u64 a.a1, .int .u64 a.a2, .int .u64 a.a3, .int .u64 a.a4], .agg #[.int .u64 b.a0, .int .u64 b.a1, .int .u64 b.a2, .int .u64 b.a3, .int .u64 b.a4], .agg #[.int .u64 c.a0, .int .u64 c.a1, .int .u64 c.a2, .int .u64 c.a3, .int .u64 c.a4], .pointer (some ⟨w.heap.size, 0, none⟩), .pointer (some ⟨w.heap.size + 1, 0, none⟩), .pointer (some ⟨w.heap.size + 1 + 1, 0, none⟩), .bool false, .pointer (some ⟨g7, 0, none⟩), .pointer (some ⟨g8, 0, none⟩), f 9, f 10, undef, undef, .bool true, .bool false, .agg #[.int .u64 a.a0, .int .u64 a.a1, .int .u64 a.a2, .int .u64 a.a3, .int .u64 a.a4], .agg #[.int .u64 b.a0, .int .u64 b.a1, .int .u64 b.a2, .int .u64 b.a3, .int .u64 b.a4], .agg #[.int .u64 c.a0, .int .u64 c.a1, .int .u64 c.a2, .int .u64 c.a3, .int .u64 c.a4], .slice (some ⟨gs, 0, none⟩) 3 3, .bool true, .bool false, f5 21, f5 22, .agg #[.int .u64 (Fe.addE a b).a0, .int .u64 (Fe.addE a b).a1, .int .u64 (Fe.addE a b).a2, .int .u64 (Fe.addE a b).a3, .int .u64 (Fe.addE a b).a4], f5 24, f5 25, .agg #[.int .u64 (Fe.mulE a b).a0, .int .u64 (Fe.mulE a b).a1, .int .u64 (Fe.mulE a b).a2, .int .u64 (Fe.mulE a b).a3, .int .u64 (Fe.mulE a b).a4], f6 27, f6 28, f6 29, f6 30, f6 31, f6 32, f6 33, f6 34, f6 35, f6 36, f6 37, f6 38, f6 39, f6 40, f6 41, f6 42, f6 43, f6 44, f6 45, f6 46, f6 47, f6 48, f6 49, f6 50, f6 51, f6 52, f6 53, f6 54, f6 55, f6 56, f6 57, f6 58, f6 59, f6 60, f6 61, f6 62, f6 63, .bool false, f 65, f 66, f 67, f 68, f 69, f 70, f 71, f 72, f 73, f 74, undef, undef, undef, undef, undef, undef, undef, undef, undef, undef, undef, undef, undef, undef, undef, undef, undef, undef, undef, undef, undef, undef, undef, undef, undef, undef, undef, undef, undef, undef, undef, undef, undef, undef, undef, undef, undef, undef, undef, undef, undef, undef, undef, undef, undef, undef, undef, undef, undef, undef, undef, undef, undef, undef, undef, undef, undef, undef, undef, undef, undef, undef, undef, undef, undef, undef, undef, undef, undef, undef, undef, undef, undef, undef, undef, undef, undef, undef, undef, undef, undef, undef, undef]) (fun f => rfl) (by kernel_rfl) (by kernel_rfl) (by kernel_rfl) (by kernel_rfl) (by kernel_rfl) (fr8S _ _ _ _) (fr8O _ _ _ _) ?_ ?_
      · refine steps2_cons ?_ ?_
        · intro f w1 hb hd Q hK
          clear hd
          have hK := Lib.hid hK
          obtain ⟨c0, c1, c2, c3, c4⟩ := blk5 (hC.below hb)
          go_wp2
          exact hK.out _ _ rfl (Below.refl _ _) (fun h => by cases h)
        refine steps2_cons ?_ ?_
        · intro f w1 hb hd Q hK
          clear hd
          have hK := Lib.hid hK
          obtain ⟨c0, c1, c2, c3, c4⟩ := blk5 (hS.below hb)
          go_wp2
          exact hK.out _ _ rfl (Below.refl _ _) (fun h => by cases h)
        refine steps2_cons ?_ ?_
        · intro f w1 hb hd Q hK
          have e65 : f 65 = .agg #[.int .u64 c.a0, .int .u64 c.a1, .int .u64 c.a2, .int .u64 c.a3, .int .u64 c.a4] := hd.1 rfl
          have e66 : f 66 = .agg #[.int .u64 (Fe.addE a b).a0, .int .u64 (Fe.addE a b).a1, .int .u64 (Fe.addE a b).a2, .int .u64 (Fe.addE a b).a3, .int .u64 (Fe.addE a b).a4] := hd.2.1 rfl
          clear hd
          simp only [e65, e66] at hK
          have hK := Lib.hid hK
          go_wp2_with fail
          refine ((mul_E c (Fe.addE a b) hwc (Fe.addE_w _ _)) _).mono ?_
          rintro e w2 ⟨rfl, hb2⟩
          go_wp2
          exact hK.out _ _ rfl hb2 (fun h => by cases h)
        refine steps2_cons ?_ ?_
        · intro f w1 hb hd Q hK
          clear hd
          have hK := Lib.hid hK
          obtain ⟨c0, c1, c2, c3, c4⟩ := blk5 (hC.below hb)
          go_wp2
          exact hK.out _ _ rfl (Below.refl _ _) (fun h => by cases h)
        refine steps2_cons ?_ ?_
        · intro f w1 hb hd Q hK
          clear hd
          have hK := Lib.hid hK
          obtain ⟨c0, c1, c2, c3, c4⟩ := blk5 (hA.below hb)
          go_wp2
          exact hK.out _ _ rfl (Below.refl _ _) (fun h => by cases h)
        refine steps2_cons ?_ ?_
        · intro f w1 hb hd Q hK
          have e68 : f 68 = .agg #[.int .u64 c.a0, .int .u64 c.a1, .int .u64 c.a2, .int .u64 c.a3, .int .u64 c.a4] := hd.1 rfl
          have e69 : f 69 = .agg #[.int .u64 a.a0, .int .u64 a.a1, .int .u64 a.a2, .int .u64 a.a3, .int .u64 a.a4] := hd.2.1 rfl
          clear hd
          simp only [e68, e69] at hK
          have hK := Lib.hid hK
          go_wp2_with fail
          refine ((mul_E c a hwc hwa) _).mono ?_
          rintro e w2 ⟨rfl, hb2⟩
          go_wp2
          exact hK.out _ _ rfl hb2 (fun h => by cases h)
        refine steps2_cons ?_ ?_
        · intro f w1 hb hd Q hK
          clear hd
          have hK := Lib.hid hK
          obtain ⟨c0, c1, c2, c3, c4⟩ := blk5 (hC.below hb)
          go_wp2
          exact hK.out _ _ rfl (Below.refl _ _) (fun h => by cases h)
        refine steps2_cons ?_ ?_
        · intro f w1 hb hd Q hK
          clear hd
          have hK := Lib.hid hK
          obtain ⟨c0, c1, c2, c3, c4⟩ := blk5 (hB.below hb)
          go_wp2
          exact hK.out _ _ rfl (Below.refl _ _) (fun h => by cases h)
        refine steps2_cons ?_ ?_
        · intro f w1 hb hd Q hK
          have e71 : f 71 = .agg #[.int .u64 c.a0, .int .u64 c.a1, .int .u64 c.a2, .int .u64 c.a3, .int .u64 c.a4] := hd.1 rfl
          have e72 : f 72 = .agg #[.int .u64 b.a0, .int .u64 b.a1, .int .u64 b.a2, .int .u64 b.a3, .int .u64 b.a4] := hd.2.1 rfl
          clear hd
          simp only [e71, e72] at hK
          have hK := Lib.hid hK
          go_wp2_with fail
          refine ((mul_E c b hwc hwb) _).mono ?_
          rintro e w2 ⟨rfl, hb2⟩
          go_wp2
          exact hK.out _ _ rfl hb2 (fun h => by cases h)
        refine steps2_cons ?_ ?_
        · intro f w1 hb hd Q hK
          have e70 : f 70 = .agg #[.int .u64 (Fe.mulE c a).a0, .int .u64 (Fe.mulE c a).a1, .int .u64 (Fe.mulE c a).a2, .int .u64 (Fe.mulE c a).a3, .int .u64 (Fe.mulE c a).a4] := hd.1 rfl
          have e73 : f 73 = .agg #[.int .u64 (Fe.mulE c b).a0, .int .u64 (Fe.mulE c b).a1, .int .u64 (Fe.mulE c b).a2, .int .u64 (Fe.mulE c b).a3, .int .u64 (Fe.mulE c b).a4] := hd.2.1 rfl
          clear hd
          simp only [e70, e73] at hK
          have hK := Lib.hid hK
          go_wp2_with fail
          refine ((add_E (Fe.mulE c a) (Fe.mulE c b)) _).mono ?_
          rintro e w2 ⟨rfl, hb2⟩
          go_wp2
          exact hK.out _ _ rfl hb2 (fun h => by cases h)
        refine steps2_cons ?_ ?_
        · intro f w1 hb hd Q hK
          clear hd
          have hK := Lib.hid hK
          have hsz := hb.size
          go_wp2
          exact hK.out _ _ ⟨_, rfl, hsz, Blk.new _ _ _⟩ ((Below.refl _ _).alloc (Nat.le_refl _) _) (fun _ => ⟨_, rfl, Nat.le_refl _⟩)
        refine steps2_cons ?_ ?_
        · intro f w1 hb hd Q hK
          clear hd
          have hK := Lib.hid hK
          have hsz := hb.size
          go_wp2
          exact hK.out _ _ ⟨_, rfl, hsz, Blk.new _ _ _⟩ ((Below.refl _ _).alloc (Nat.le_refl _) _) (fun _ => ⟨_, rfl, Nat.le_refl _⟩)
        trivial
      · intro f8 y8 hb hf hne
        obtain ⟨g9, d9, lo9, bk9⟩ : NewB y6.heap.size 24 #[.int .u64 0, .int .u64 0, .int .u64 0, .int .u64 0, .int .u64 0] (f8 9) y8 := hf 10 _ _ (by decide) rfl rfl
        obtain ⟨g10, d10, lo10, bk10⟩ : NewB y6.heap.size 24 #[.int .u64 0, .int .u64 0, .int .u64 0, .int .u64 0, .int .u64 0] (f8 10) y8 := hf 11 _ _ (by decide) rfl rfl
        have d67 : f8 67 = .agg #[.int .u64 (Fe.mulE c (Fe.addE a b)).a0, .int .u64 (Fe.mulE c (Fe.addE a b)).a1, .int .u64 (Fe.mulE c (Fe.addE a b)).a2, .int .u64 (Fe.mulE c (Fe.addE a b)).a3, .int .u64 (Fe.mulE c (Fe.addE a b)).a4] := hf 2 _ _ (by decide) rfl rfl
        have d74 : f8 74 = .agg #[.int .u64 (Fe.addE (Fe.mulE c a) (Fe.mulE c b)).a0, .int .u64 (Fe.addE (Fe.mulE c a) (Fe.mulE c b)).a1, .int .u64 (Fe.addE (Fe.mulE c a) (Fe.mulE c b)).a2, .int .u64 (Fe.addE (Fe.mulE c a) (Fe.mulE c b)).a3, .int .u64 (Fe.addE (Fe.mulE c a) (Fe.mulE c b)).a4] := hf 9 _ _ (by decide) rfl rfl
        have hne' : g9 ≠ g10 := by
          have := hne 10 11 _ _ _ _ (by decide) (by decide) (by decide) rfl rfl rfl rfl rfl rfl
          rw [d9, d10] at this
          exact fun h => this (by rw [h])
        clear hf hne
        simp only [d9, d10, d67, d74]
        refine wpList_store_blk rfl _ _ _ rfl g9 24 #[.int .u64 0, .int .u64 0, .int .u64 0, .int .u64 0, .int .u64 0] #[.int .u64 (Fe.mulE c (Fe.addE a b)).a0, .int .u64 (Fe.mulE c (Fe.addE a b)).a1, .int .u64 (Fe.mulE c (Fe.addE a b)).a2, .int .u64 (Fe.mulE c (Fe.addE a b)).a3, .int .u64 (Fe.mulE c (Fe.addE a b)).a4] rfl rfl bk9 rfl (by kernel_rfl) (by kernel_rfl) ?_
        intro w5 hnew hgr hsz
        replace hA := (hA.below hb).grown hgr (by simp; omega)
        replace hB := (hB.below hb).grown hgr (by simp; omega)
        replace hC := (hC.below hb).grown hgr (by simp; omega)
        replace hS := (hS.below hb).grown hgr (by simp; omega)
        replace hP := (hP.below hb).grown hgr (by simp; omega)
        have hb0 := (hb0.trans (hb.mono hb0.size)).grown hgr (Nat.le_trans hb0.size hb.size) (fun k h => by injection h; omega)
        replace bk10 := bk10.grown hgr (fun h => hne' (by injection h with h; exact h.symm))
        have hX := hnew
        clear hnew hgr hsz hb
        refine wpList_store_blk rfl _ _ _ rfl g10 24 #[.int .u64 0, .int .u64 0, .int .u64 0, .int .u64 0, .int .u64 0] #[.int .u64 (Fe.addE (Fe.mulE c a) (Fe.mulE c b)).a0, .int .u64 (Fe.addE (Fe.mulE c a) (Fe.mulE c b)).a1, .int .u64 (Fe.addE (Fe.mulE c a) (Fe.mulE c b)).a2, .int .u64 (Fe.addE (Fe.mulE c a) (Fe.mulE c b)).a3, .int .u64 (Fe.addE (Fe.mulE c a) (Fe.mulE c b)).a4] rfl rfl bk10 rfl (by kernel_rfl) (by kernel_rfl) ?_
        intro w6 hnew hgr hsz
        refine wpList_nil ?_
        replace hA := hA.grown hgr (by simp; omega)
        replace hB := hB.grown hgr (by simp; omega)
        replace hC := hC.grown hgr (by simp; omega)
        replace hS := hS.grown hgr (by simp; omega)
        replace hP := hP.grown hgr (by simp; omega)
        replace hb0 := hb0.grown hgr (by have := hA.lt; omega) (fun k h => by injection h; omega)
        replace hX := hX.grown hgr (fun h => hne' (by injection h))
        have hY := hnew
        have hXlt := hX.lt
        have hYlt := hY.lt
        clear hnew hgr hsz bk9 bk10 d9 d10 d67 d74
        go_wp2
        refine wp_region_grow2 37 (fun k => (Nat.ble 75 k && Nat.ble k 111)) _ [] (fun j x' q => (fr9L a b c).getD j (fun _ _ => True) x' q) (fun _ => false) (fun f => #[.agg #[.int .u64 a.a0, .int .u64 a.a1, .int .u64 a.a2, .int .u64 a.a3, .int .u64 a.a4], .agg #[.int .u64 b.a0, .int .u64 b.a1, .int .u64 b.a2, .int .u64 b.a3, .int .u64 b.a4], .agg #[.int .u64 c.a0, .int .u64 c.a1, .int .u64 c.a2, .int .u64 c.a3, .int .u64 c.a4], .pointer (some ⟨w.heap.size, 0, none⟩), .pointer (some ⟨w.heap.size + 1, 0, none⟩), .pointer (some ⟨w.heap.size + 1 + 1, 0, none⟩), .bool false, .pointer (some ⟨g7, 0, none⟩), .pointer (some ⟨g8, 0, none⟩), .pointer (some ⟨g9, 0, none⟩), .pointer (some ⟨g10, 0, none⟩), undef, undef, .bool true, .bool false, .agg #[.int .u64 a.a0, .int .u64 a.a1, .int .u64 a.a2, .int .u64 a.a3, .int .u64 a.a4], .agg #[.int .u64 b.a0, .int .u64 b.a1, .int .u64 b.a2, .int .u64 b.a3, .int .u64 b.a4], .agg #[.int .u64 c.a0, .int .u64 c.a1, .int .u64 c.a2, .int .u64 c.a3, .int .u64 c.a4], .slice (some ⟨gs, 0, none⟩) 3 3, .bool true, .bool false, f5 21, f5 22, .agg #[.int .u64 (Fe.addE a b).a0, .int .u64 (Fe.addE a b).a1, .int .u64 (Fe.addE a b).a2, .int .u64 (Fe.addE a b).a3, .int .u64 (Fe.addE a b).a4], f5 24, f5 25, .agg #[.int .u64 (Fe.mulE a b).a0, .int .u64 (Fe.mulE a b).a1, .int .u64 (Fe.mulE a b).a2, .int .u64 (Fe.mulE a b).a3, .int .u64 (Fe.mulE a b).a4], f6 27, f6 28, f6 29, f6 30, f6 31, f6 32, f6 33, f6 34, f6 35, f6 36, f6 37, f6 38, f6 39, f6 40, f6 41, f6 42, f6 43, f6 44, f6 45, f6 46, f6 47, f6 48, f6 49, f6 50, f6 51, f6 52, f6 53, f6 54, f6 55, f6 56, f6 57, f6 58, f6 59, f6 60, f6 61, f6 62, f6 63, .bool false, f8 65, f8 66, .agg #[.int .u64 (Fe.mulE c (Fe.addE a b)).a0, .int .u64 (Fe.mulE c (Fe.addE a b)).a1, .int .u64 (Fe.mulE c (Fe.addE a b)).a2, .int .u64 (Fe.mulE c (Fe.addE a b)).a3, .int .u64 (Fe.mulE c (Fe.addE a b)).a4], f8 68, f8 69, f8 70, f8 71, f8 72, f8 73, .agg #[.int .u64 (Fe.addE (Fe.mulE c a) (Fe.mulE c b)).a0, .int .u64 (Fe.addE (Fe.mulE c a) (Fe.mulE c b)).a1, .int .u64 (Fe.addE (Fe.mulE c a) (Fe.mulE c b)).a2, .int .u64 (Fe.addE (Fe.mulE c a) (Fe.mulE c b)).a3, .int .u64 (Fe.addE (Fe.mulE c a) (Fe.mulE c b)).a4], f 75, f 76, f 77, f 78, f 79, f 80, f 81, f 82, f 83, f 84, f 85, f 86, f 87, f 88, f 89, f 90, f 91, f 92, f 93, f 94, f 95, f 96, f 97, f 98, f 99, f 100, f 101, f 102, f 103, f 104, f 105, f 106, f 107, f 108, f 109, f 110, f 111, undef, undef, undef, undef, undef, undef, undef, undef, undef, undef, undef, undef, undef, undef, undef, undef, undef, undef, undef, undef, undef, undef, undef, undef, undef, undef, undef, undef, undef, undef, undef, undef, undef, undef, undef, undef, undef, undef, undef, undef, undef, undef, undef, undef, undef, undef]) (fun f => rfl) (by kernel_rfl) (by kernel_rfl) (by kernel_rfl) (by kernel_rfl) (by kernel_rfl) (fr9S _ _ _) (fun _ _ _ h => by cases h) ?_ ?_
        · refine steps2_cons ?_ ?_
          · intro f w1 hb hd Q hK
            clear hd
            have hK := Lib.hid hK
            obtain ⟨c0, c1, c2, c3, c4⟩ := blk5 (hX.below hb)
            go_wp2
            exact hK.out _ _ rfl (Below.refl _ _) (fun h => by cases h)
          refine steps2_cons ?_ ?_
          · intro f w1 hb hd Q hK
            clear hd
            have hK := Lib.hid hK
            obtain ⟨c0, c1, c2, c3, c4⟩ := blk5 (hY.below hb)
            go_wp2
            exact hK.out _ _ rfl (Below.refl _ _) (fun h => by cases h)
          refine steps2_cons ?_ ?_
          · intro f w1 hb hd Q hK
            have e75 : f 75 = .agg #[.int .u64 (Fe.mulE c (Fe.addE a b)).a0, .int .u64 (Fe.mulE c (Fe.addE a b)).a1, .int .u64 (Fe.mulE c (Fe.addE a b)).a2, .int .u64 (Fe.mulE c (Fe.addE a b)).a3, .int .u64 (Fe.mulE c (Fe.addE a b)).a4] := hd.1 rfl
            have e76 : f 76 = .agg #[.int .u64 (Fe.addE (Fe.mulE c a) (Fe.mulE c b)).a0, .int .u64 (Fe.addE (Fe.mulE c a) (Fe.mulE c b)).a1, .int .u64 (Fe.addE (Fe.mulE c a) (Fe.mulE c b)).a2, .int .u64 (Fe.addE (Fe.mulE c a) (Fe.mulE c b)).a3, .int .u64 (Fe.addE (Fe.mulE c a) (Fe.mulE c b)).a4] := hd.2.1 rfl
            clear hd
            simp only [e75, e76] at hK
            have hK := Lib.hid hK
            go_wp2_with fail
            refine (c5.out _).mono ?_
            rintro e w2 ⟨rfl, hb2⟩
            go_wp2
            exact hK.out _ _ rfl hb2 (fun h => by cases h)
          refine steps2_cons ?_ ?_
          · intro f w1 hb hd Q hK
            have e77 : f 77 = .bool true := hd.1 rfl
            clear hd
            simp only [e77] at hK
            have hK := Lib.hid hK
            go_wp2
            exact hK.out _ _ rfl (Below.refl _ _) (fun h => by cases h)
          refine steps2_cons ?_ ?_
          · intro f w1 hb hd Q hK
            have e78 : f 78 = .bool false := hd.1 rfl
            clear hd
            simp only [e78] at hK
            have hK := Lib.hid hK
            go_wp2
            exact hK.out _ _ rfl (Below.refl _ _) (fun h => by cases h)
          refine steps2_cons ?_ ?_
          · intro f w1 hb hd Q hK
            have e79 : f 79 = .bool false := hd.1 rfl
            clear hd
            simp only [e79] at hK
            have hK := Lib.hid hK
            obtain ⟨c0, c1, c2, c3, c4⟩ := blk5 (hS.below hb)
            go_wp2
            exact hK.out _ _ rfl (Below.refl _ _) (fun h => by cases h)
          refine steps2_cons ?_ ?_
          · intro f w1 hb hd Q hK
            have e79 : f 79 = .bool false := hd.1 rfl
            clear hd
            simp only [e79] at hK
            have hK := Lib.hid hK
            obtain ⟨c0, c1, c2, c3, c4⟩ := blk5 (hB.below hb)
            go_wp2
            exact hK.out _ _ rfl (Below.refl _ _) (fun h => by cases h)
          refine steps2_cons ?_ ?_
          · intro f w1 hb hd Q hK
            have e80 : f 80 = .agg #[.int .u64 (Fe.addE a b).a0, .int .u64 (Fe.addE a b).a1, .int .u64 (Fe.addE a b).a2, .int .u64 (Fe.addE a b).a3, .int .u64 (Fe.addE a b).a4] := hd.1 rfl
            have e81 : f 81 = .agg #[.int .u64 b.a0, .int .u64 b.a1, .int .u64 b.a2, .int .u64 b.a3, .int .u64 b.a4] := hd.2.1 rfl
            have e79 : f 79 = .bool false := hd.2.2.1 rfl
            clear hd
            simp only [e80, e81, e79] at hK
            have hK := Lib.hid hK
            go_wp2_with fail
            refine ((sub_E (Fe.addE a b) b) _).mono ?_
            rintro e w2 ⟨rfl, hb2⟩
            go_wp2
            exact hK.out _ _ rfl hb2 (fun h => by cases h)
          refine steps2_cons ?_ ?_
          · intro f w1 hb hd Q hK
            have e79 : f 79 = .bool false := hd.1 rfl
            clear hd
            simp only [e79] at hK
            have hK := Lib.hid hK
            obtain ⟨c0, c1, c2, c3, c4⟩ := blk5 (hA.below hb)
            go_wp2
            exact hK.out _ _ rfl (Below.refl _ _) (fun h => by cases h)
          refine steps2_cons ?_ ?_
          · intro f w1 hb hd Q hK
            have e82 : f 82 = .agg #[.int .u64 (Fe.subE (Fe.addE a b) b).a0, .int .u64 (Fe.subE (Fe.addE a b) b).a1, .int .u64 (Fe.subE (Fe.addE a b) b).a2, .int .u64 (Fe.subE (Fe.addE a b) b).a3, .int .u64 (Fe.subE (Fe.addE a b) b).a4] := hd.1 rfl
            have e83 : f 83 = .agg #[.int .u64 a.a0, .int .u64 a.a1, .int .u64 a.a2, .int .u64 a.a3, .int .u64 a.a4] := hd.2.1 rfl
            have e79 : f 79 = .bool false := hd.2.2.2.1 rfl
            clear hd
            simp only [e82, e83, e79] at hK
            have hK := Lib.hid hK
            go_wp2_with fail
            refine (c6.out _).mono ?_
            rintro e w2 ⟨rfl, hb2⟩
            go_wp2
            exact hK.out _ _ rfl hb2 (fun h => by cases h)
          refine steps2_cons ?_ ?_
          · intro f w1 hb hd Q hK
            have e84 : f 84 = .bool true := hd.1 rfl
            have e79 : f 79 = .bool false := hd.2.1 rfl
            clear hd
            simp only [e84, e79] at hK
            have hK := Lib.hid hK
            go_wp2
            exact hK.out _ _ rfl (Below.refl _ _) (fun h => by cases h)
          refine steps2_cons ?_ ?_
          · intro f w1 hb hd Q hK
            have e79 : f 79 = .bool false := hd.1 rfl
            have e85 : f 85 = .bool false := hd.2.1 rfl
            clear hd
            simp only [e79, e85] at hK
            have hK := Lib.hid hK
            go_wp2
            exact hK.out _ _ rfl (Below.refl _ _) (fun h => by cases h)
          refine steps2_cons ?_ ?_
          · intro f w1 hb hd Q hK
            have e86 : f 86 = .bool false := hd.1 rfl
            clear hd
            simp only [e86] at hK
            have hK := Lib.hid hK
            go_wp2
            exact hK.out _ _ rfl (Below.refl _ _) (fun h => by cases h)
          refine steps2_cons ?_ ?_
          · intro f w1 hb hd Q hK
            have e87 : f 87 = .bool false := hd.1 rfl
            clear hd
            simp only [e87] at hK
            have hK := Lib.hid hK
            obtain ⟨c0, c1, c2, c3, c4⟩ := blk5 (hA.below hb)
            go_wp2
            exact hK.out _ _ rfl (Below.refl _ _) (fun h => by cases h)
          refine steps2_cons ?_ ?_
          · intro f w1 hb hd Q hK
            have e87 : f 87 = .bool false := hd.1 rfl
            clear hd
            simp only [e87] at hK
            have hK := Lib.hid hK
            obtain ⟨c0, c1, c2, c3, c4⟩ := blk5 (hA.below hb)
            go_wp2
            exact hK.out _ _ rfl (Below.refl _ _) (fun h => by cases h)
          refine steps2_cons ?_ ?_
          · intro f w1 hb hd Q hK
            have e89 : f 89 = .agg #[.int .u64 a.a0, .int .u64 a.a1, .int .u64 a.a2, .int .u64 a.a3, .int .u64 a.a4] := hd.1 rfl
            have e87 : f 87 = .bool false := hd.2.1 rfl
            clear hd
            simp only [e89, e87] at hK
            have hK := Lib.hid hK
            go_wp2_with fail
            refine ((neg_E a) _).mono ?_
            rintro e w2 ⟨rfl, hb2⟩
            go_wp2
            exact hK.out _ _ rfl hb2 (fun h => by cases h)
          refine steps2_cons ?_ ?_
          · intro f w1 hb hd Q hK
            have e88 : f 88 = .agg #[.int .u64 a.a0, .int .u64 a.a1, .int .u64 a.a2, .int .u64 a.a3, .int .u64 a.a4] := hd.1 rfl
            have e90 : f 90 = .agg #[.int .u64 (Fe.subE ⟨0, 0, 0, 0, 0⟩ a).a0, .int .u64 (Fe.subE ⟨0, 0, 0, 0, 0⟩ a).a1, .int .u64 (Fe.subE ⟨0, 0, 0, 0, 0⟩ a).a2, .int .u64 (Fe.subE ⟨0, 0, 0, 0, 0⟩ a).a3, .int .u64 (Fe.subE ⟨0, 0, 0, 0, 0⟩ a).a4] := hd.2.1 rfl
            have e87 : f 87 = .bool false := hd.2.2.2.1 rfl
            clear hd
            simp only [e88, e90, e87] at hK
            have hK := Lib.hid hK
            go_wp2_with fail
            refine ((add_E a (Fe.subE ⟨0, 0, 0, 0, 0⟩ a)) _).mono ?_
            rintro e w2 ⟨rfl, hb2⟩
            go_wp2
            exact hK.out _ _ rfl hb2 (fun h => by cases h)
          refine steps2_cons ?_ ?_
          · intro f w1 hb hd Q hK
            have e91 : f 91 = .agg #[.int .u64 (Fe.addE a (Fe.subE ⟨0, 0, 0, 0, 0⟩ a)).a0, .int .u64 (Fe.addE a (Fe.subE ⟨0, 0, 0, 0, 0⟩ a)).a1, .int .u64 (Fe.addE a (Fe.subE ⟨0, 0, 0, 0, 0⟩ a)).a2, .int .u64 (Fe.addE a (Fe.subE ⟨0, 0, 0, 0, 0⟩ a)).a3, .int .u64 (Fe.addE a (Fe.subE ⟨0, 0, 0, 0, 0⟩ a)).a4] := hd.1 rfl
            have e87 : f 87 = .bool false := hd.2.2.1 rfl
            clear hd
            simp only [e91, e87] at hK
            have hK := Lib.hid hK
            go_wp2_with fail
            refine (c7.out _).mono ?_
            rintro e w2 ⟨rfl, hb2⟩
            go_wp2
            exact hK.out _ _ rfl hb2 (fun h => by cases h)
          refine steps2_cons ?_ ?_
          · intro f w1 hb hd Q hK
            have e92 : f 92 = .bool true := hd.1 rfl
            have e87 : f 87 = .bool false := hd.2.1 rfl
            clear hd
            simp only [e92, e87] at hK
            have hK := Lib.hid hK
            go_wp2
            exact hK.out _ _ rfl (Below.refl _ _) (fun h => by cases h)
          refine steps2_cons ?_ ?_
          · intro f w1 hb hd Q hK
            have e87 : f 87 = .bool false := hd.1 rfl
            have e93 : f 93 = .bool false := hd.2.1 rfl
            clear hd
            simp only [e87, e93] at hK
            have hK := Lib.hid hK
            go_wp2
            exact hK.out _ _ rfl (Below.refl _ _) (fun h => by cases h)
          refine steps2_cons ?_ ?_
          · intro f w1 hb hd Q hK
            have e94 : f 94 = .bool false := hd.1 rfl
            clear hd
            simp only [e94] at hK
            have hK := Lib.hid hK
            go_wp2
            exact hK.out _ _ rfl (Below.refl _ _) (fun h => by cases h)
          refine steps2_cons ?_ ?_
          · intro f w1 hb hd Q hK
            have e95 : f 95 = .bool false := hd.1 rfl
            clear hd
            simp only [e95] at hK
            have hK := Lib.hid hK
            obtain ⟨c0, c1, c2, c3, c4⟩ := blk5 (hA.below hb)
            go_wp2
            exact hK.out _ _ rfl (Below.refl _ _) (fun h => by cases h)
          refine steps2_cons ?_ ?_
          · intro f w1 hb hd Q hK
            have e96 : f 96 = .agg #[.int .u64 a.a0, .int .u64 a.a1, .int .u64 a.a2, .int .u64 a.a3, .int .u64 a.a4] := hd.1 rfl
            have e95 : f 95 = .bool false := hd.2.1 rfl
            clear hd
            simp only [e96, e95] at hK
            have hK := Lib.hid hK
            go_wp2_with fail
            refine ((square_E a hwa) _).mono ?_
            rintro e w2 ⟨rfl, hb2⟩
            go_wp2
            exact hK.out _ _ rfl hb2 (fun h => by cases h)
          refine steps2_cons ?_ ?_
          · intro f w1 hb hd Q hK
            have e95 : f 95 = .bool false := hd.1 rfl
            clear hd
            simp only [e95] at hK
            have hK := Lib.hid hK
            obtain ⟨c0, c1, c2, c3, c4⟩ := blk5 (hA.below hb)
            go_wp2
            exact hK.out _ _ rfl (Below.refl _ _) (fun h => by cases h)
          refine steps2_cons ?_ ?_
          · intro f w1 hb hd Q hK
            have e95 : f 95 = .bool false := hd.1 rfl
            clear hd
            simp only [e95] at hK
            have hK := Lib.hid hK
            obtain ⟨c0, c1, c2, c3, c4⟩ := blk5 (hA.below hb)
            go_wp2
            exact hK.out _ _ rfl (Below.refl _ _) (fun h => by cases h)
          refine steps2_cons ?_ ?_
          · intro f w1 hb hd Q hK
            have e98 : f 98 = .agg #[.int .u64 a.a0, .int .u64 a.a1, .int .u64 a.a2, .int .u64 a.a3, .int .u64 a.a4] := hd.1 rfl
            have e99 : f 99 = .agg #[.int .u64 a.a0, .int .u64 a.a1, .int .u64 a.a2, .int .u64 a.a3, .int .u64 a.a4] := hd.2.1 rfl
            have e95 : f 95 = .bool false := hd.2.2.2.1 rfl
            clear hd
            simp only [e98, e99, e95] at hK
            have hK := Lib.hid hK
            go_wp2_with fail
            refine ((mul_E a a hwa hwa) _).mono ?_
            rintro e w2 ⟨rfl, hb2⟩
            go_wp2
            exact hK.out _ _ rfl hb2 (fun h => by cases h)
          refine steps2_cons ?_ ?_
          · intro f w1 hb hd Q hK
            have e97 : f 97 = .agg #[.int .u64 (Fe.mulE a a).a0, .int .u64 (Fe.mulE a a).a1, .int .u64 (Fe.mulE a a).a2, .int .u64 (Fe.mulE a a).a3, .int .u64 (Fe.mulE a a).a4] := hd.1 rfl
            have e100 : f 100 = .agg #[.int .u64 (Fe.mulE a a).a0, .int .u64 (Fe.mulE a a).a1, .int .u64 (Fe.mulE a a).a2, .int .u64 (Fe.mulE a a).a3, .int .u64 (Fe.mulE a a).a4] := hd.2.1 rfl
            have e95 : f 95 = .bool false := hd.2.2.2.1 rfl
            clear hd
            simp only [e97, e100, e95] at hK
            have hK := Lib.hid hK
            go_wp2_with fail
            refine (c8.out _).mono ?_
            rintro e w2 ⟨rfl, hb2⟩
            go_wp2
            exact hK.out _ _ rfl hb2 (fun h => by cases h)
          refine steps2_cons ?_ ?_
          · intro f w1 hb hd Q hK
            have e101 : f 101 = .bool true := hd.1 rfl
            have e95 : f 95 = .bool false := hd.2.1 rfl
            clear hd
            simp only [e101, e95] at hK
            have hK := Lib.hid hK
            go_wp2
            exact hK.out _ _ rfl (Below.refl _ _) (fun h => by cases h)
          refine steps2_cons ?_ ?_
          · intro f w1 hb hd Q hK
            have e95 : f 95 = .bool false := hd.1 rfl
            have e102 : f 102 = .bool false := hd.2.1 rfl
            clear hd
            simp only [e95, e102] at hK
            have hK := Lib.hid hK
            go_wp2
            exact hK.out _ _ rfl (Below.refl _ _) (fun h => by cases h)
          refine steps2_cons ?_ ?_
          · intro f w1 hb hd Q hK
            have e103 : f 103 = .bool false := hd.1 rfl
            clear hd
            simp only [e103] at hK
            have hK := Lib.hid hK
            go_wp2
            exact hK.out _ _ rfl (Below.refl _ _) (fun h => by cases h)
          refine steps2_cons ?_ ?_
          · intro f w1 hb hd Q hK
            have e104 : f 104 = .bool false := hd.1 rfl
            clear hd
            simp only [e104] at hK
            have hK := Lib.hid hK
            obtain ⟨c0, c1, c2, c3, c4⟩ := blk5 (hA.below hb)
            go_wp2
            exact hK.out _ _ rfl (Below.refl _ _) (fun h => by cases h)
          refine steps2_cons ?_ ?_
          · intro f w1 hb hd Q hK
            have e104 : f 104 = .bool false := hd.1 rfl
            clear hd
            simp only [e104] at hK
            have hK := Lib.hid hK
            go_wp2_with fail
            refine (one_v _).mono ?_
            rintro e w2 ⟨rfl, hb2⟩
            go_wp2
            exact hK.out _ _ rfl hb2 (fun h => by cases h)
          refine steps2_cons ?_ ?_
          · intro f w1 hb hd Q hK
            have e105 : f 105 = .agg #[.int .u64 a.a0, .int .u64 a.a1, .int .u64 a.a2, .int .u64 a.a3, .int .u64 a.a4] := hd.1 rfl
            have e106 : f 106 = .agg #[.int .u64 1, .int .u64 0, .int .u64 0, .int .u64 0, .int .u64 0] := hd.2.1 rfl
            have e104 : f 104 = .bool false := hd.2.2.2.1 rfl
            clear hd
            simp only [e105, e106, e104] at hK
            have hK := Lib.hid hK
            go_wp2_with fail
            refine ((mul_E a (⟨1, 0, 0, 0, 0⟩) hwa Fe.R_one.w) _).mono ?_
            rintro e w2 ⟨rfl, hb2⟩
            go_wp2
            exact hK.out _ _ rfl hb2 (fun h => by cases h)
          refine steps2_cons ?_ ?_
          · intro f w1 hb hd Q hK
            have e104 : f 104 = .bool false := hd.1 rfl
            clear hd
            simp only [e104] at hK
            have hK := Lib.hid hK
            obtain ⟨c0, c1, c2, c3, c4⟩ := blk5 (hA.below hb)
            go_wp2
            exact hK.out _ _ rfl (Below.refl _ _) (fun h => by cases h)
          refine steps2_cons ?_ ?_
          · intro f w1 hb hd Q hK
            have e107 : f 107 = .agg #[.int .u64 (Fe.mulE a (⟨1, 0, 0, 0, 0⟩)).a0, .int .u64 (Fe.mulE a (⟨1, 0, 0, 0, 0⟩)).a1, .int .u64 (Fe.mulE a (⟨1, 0, 0, 0, 0⟩)).a2, .int .u64 (Fe.mulE a (⟨1, 0, 0, 0, 0⟩)).a3, .int .u64 (Fe.mulE a (⟨1, 0, 0, 0, 0⟩)).a4] := hd.1 rfl
            have e108 : f 108 = .agg #[.int .u64 a.a0, .int .u64 a.a1, .int .u64 a.a2, .int .u64 a.a3, .int .u64 a.a4] := hd.2.1 rfl
            have e104 : f 104 = .bool false := hd.2.2.2.1 rfl
            clear hd
            simp only [e107, e108, e104] at hK
            have hK := Lib.hid hK
            go_wp2_with fail
            refine (c9.out _).mono ?_
            rintro e w2 ⟨rfl, hb2⟩
            go_wp2
            exact hK.out _ _ rfl hb2 (fun h => by cases h)
          refine steps2_cons ?_ ?_
          · intro f w1 hb hd Q hK
            have e109 : f 109 = .bool true := hd.1 rfl
            have e104 : f 104 = .bool false := hd.2.1 rfl
            clear hd
            simp only [e109, e104] at hK
            have hK := Lib.hid hK
            go_wp2
            exact hK.out _ _ rfl (Below.refl _ _) (fun h => by cases h)
          refine steps2_cons ?_ ?_
          · intro f w1 hb hd Q hK
            have e104 : f 104 = .bool false := hd.1 rfl
            have e110 : f 110 = .bool false := hd.2.1 rfl
            clear hd
            simp only [e104, e110] at hK
            have hK := Lib.hid hK
            go_wp2
            exact hK.out _ _ rfl (Below.refl _ _) (fun h => by cases h)
          trivial
        · intro f9 y9 hb hf hne
          refine wpList_nil ?_
          have d111 : f9 111 = .bool false := hf 36 _ _ (by decide) rfl rfl
          clear hf hne
          replace hA := hA.below hb
          replace hB := hB.below hb
          replace hC := hC.below hb
          replace hS := hS.below hb
          replace hP := hP.below hb
          replace hX := hX.below hb
          replace hY := hY.below hb
          replace hb0 := hb0.trans (hb.mono hb0.size)
          clear hb
          simp only [d111]
          clear d111
          obtain ⟨p0, p1, p2, p3, p4⟩ := blk5 hA
          go_wp2_with fail
          refine (cinv.out _).mono ?_
          rintro e wA ⟨rfl, hbA⟩
          clear p0 p1 p2 p3 p4
          replace hA := hA.below hbA
          replace hB := hB.below hbA
          replace hC := hC.below hbA
          replace hS := hS.below hbA
          replace hP := hP.below hbA
          replace hX := hX.below hbA
          replace hY := hY.below hbA
          replace hb0 := hb0.trans (hbA.mono hb0.size)
          clear hbA
          have hAlt := hA.lt
          go_wp2_with fail
          refine calls_at (fun W2 hW => ?_)
          replace hb0 : Below w.heap.size w W2 := by rw [hW]; exact hb0.alloc hb0.size _
          have hI : Blk W2 wA.heap.size 24 #[.int .u64 i.a0, .int .u64 i.a1, .int .u64 i.a2, .int .u64 i.a3, .int .u64 i.a4] := by rw [hW]; exact Blk.new _ _ _
          replace hA : Blk W2 (w.heap.size) 24 #[.int .u64 a.a0, .int .u64 a.a1, .int .u64 a.a2, .int .u64 a.a3, .int .u64 a.a4] := by rw [hW]; exact hA.alloc _
          replace hB : Blk W2 (w.heap.size + 1) 24 #[.int .u64 b.a0, .int .u64 b.a1, .int .u64 b.a2, .int .u64 b.a3, .int .u64 b.a4] := by rw [hW]; exact hB.alloc _
          replace hC : Blk W2 (w.heap.size + 1 + 1) 24 #[.int .u64 c.a0, .int .u64 c.a1, .int .u64 c.a2, .int .u64 c.a3, .int .u64 c.a4] := by rw [hW]; exact hC.alloc _
          replace hS : Blk W2 (g7) 24 #[.int .u64 (Fe.addE a b).a0, .int .u64 (Fe.addE a b).a1, .int .u64 (Fe.addE a b).a2, .int .u64 (Fe.addE a b).a3, .int .u64 (Fe.addE a b).a4] := by rw [hW]; exact hS.alloc _
          replace hP : Blk W2 (g8) 24 #[.int .u64 (Fe.mulE a b).a0, .int .u64 (Fe.mulE a b).a1, .int .u64 (Fe.mulE a b).a2, .int .u64 (Fe.mulE a b).a3, .int .u64 (Fe.mulE a b).a4] := by rw [hW]; exact hP.alloc _
          replace hX : Blk W2 (g9) 24 #[.int .u64 (Fe.mulE c (Fe.addE a b)).a0, .int .u64 (Fe.mulE c (Fe.addE a b)).a1, .int .u64 (Fe.mulE c (Fe.addE a b)).a2, .int .u64 (Fe.mulE c (Fe.addE a b)).a3, .int .u64 (Fe.mulE c (Fe.addE a b)).a4] := by rw [hW]; exact hX.alloc _
          replace hY : Blk W2 (g10) 24 #[.int .u64 (Fe.addE (Fe.mulE c a) (Fe.mulE c b)).a0, .int .u64 (Fe.addE (Fe.mulE c a) (Fe.mulE c b)).a1, .int .u64 (Fe.addE (Fe.mulE c a) (Fe.mulE c b)).a2, .int .u64 (Fe.addE (Fe.mulE c a) (Fe.mulE c b)).a3, .int .u64 (Fe.addE (Fe.mulE c a) (Fe.mulE c b)).a4] := by rw [hW]; exact hY.alloc _
          clear hW
          refine (one_v _).mono ?_
          rintro e wB ⟨rfl, hbB⟩
          replace hA := hA.below hbB
          replace hB := hB.below hbB
          replace hC := hC.below hbB
          replace hS := hS.below hbB
          replace hP := hP.below hbB
          replace hX := hX.below hbB
          replace hY := hY.below hbB
          replace hI := hI.below hbB
          replace hb0 := hb0.trans (hbB.mono hb0.size)
          clear hbB
          go_wp2_with fail
          refine (neg1_v _).mono ?_
          rintro e wC ⟨rfl, hbC⟩
          replace hA := hA.below hbC
          replace hB := hB.below hbC
          replace hC := hC.below hbC
          replace hS := hS.below hbC
          replace hP := hP.below hbC
          replace hX := hX.below hbC
          replace hY := hY.below hbC
          replace hI := hI.below hbC
          replace hb0 := hb0.trans (hbC.mono hb0.size)
          clear hbC
          have hIlt := hI.lt
          go_wp2
          refine at_world (fun W3 hW => ?_)
          replace hb0 : Below w.heap.size w W3 := by rw [hW]; exact hb0.alloc hb0.size _
          have hM : Blk W3 wC.heap.size 24 #[.int .u64 Fe.m1.a0, .int .u64 Fe.m1.a1, .int .u64 Fe.m1.a2, .int .u64 Fe.m1.a3, .int .u64 Fe.m1.a4] := by rw [hW]; exact Blk.new _ _ _
          replace hA : Blk W3 (w.heap.size) 24 #[.int .u64 a.a0, .int .u64 a.a1, .int .u64 a.a2, .int .u64 a.a3, .int .u64 a.a4] := by rw [hW]; exact hA.alloc _
          replace hB : Blk W3 (w.heap.size + 1) 24 #[.int .u64 b.a0, .int .u64 b.a1, .int .u64 b.a2, .int .u64 b.a3, .int .u64 b.a4] := by rw [hW]; exact hB.alloc _
          replace hC : Blk W3 (w.heap.size + 1 + 1) 24 #[.int .u64 c.a0, .int .u64 c.a1, .int .u64 c.a2, .int .u64 c.a3, .int .u64 c.a4] := by rw [hW]; exact hC.alloc _
          replace hS : Blk W3 (g7) 24 #[.int .u64 (Fe.addE a b).a0, .int .u64 (Fe.addE a b).a1, .int .u64 (Fe.addE a b).a2, .int .u64 (Fe.addE a b).a3, .int .u64 (Fe.addE a b).a4] := by rw [hW]; exact hS.alloc _
          replace hP : Blk W3 (g8) 24 #[.int .u64 (Fe.mulE a b).a0, .int .u64 (Fe.mulE a b).a1, .int .u64 (Fe.mulE a b).a2, .int .u64 (Fe.mulE a b).a3, .int .u64 (Fe.mulE a b).a4] := by rw [hW]; exact hP.alloc _
          replace hX : Blk W3 (g9) 24 #[.int .u64 (Fe.mulE c (Fe.addE a b)).a0, .int .u64 (Fe.mulE c (Fe.addE a b)).a1, .int .u64 (Fe.mulE c (Fe.addE a b)).a2, .int .u64 (Fe.mulE c (Fe.addE a b)).a3, .int .u64 (Fe.mulE c (Fe.addE a b)).a4] := by rw [hW]; exact hX.alloc _
          replace hY : Blk W3 (g10) 24 #[.int .u64 (Fe.addE (Fe.mulE c a) (Fe.mulE c b)).a0, .int .u64 (Fe.addE (Fe.mulE c a) (Fe.mulE c b)).a1, .int .u64 (Fe.addE (Fe.mulE c a) (Fe.mulE c b)).a2, .int .u64 (Fe.addE (Fe.mulE c a) (Fe.mulE c b)).a3, .int .u64 (Fe.addE (Fe.mulE c a) (Fe.mulE c b)).a4] := by rw [hW]; exact hY.alloc _
          replace hI : Blk W3 (wA.heap.size) 24 #[.int .u64 i.a0, .int .u64 i.a1, .int .u64 i.a2, .int .u64 i.a3, .int .u64 i.a4] := by rw [hW]; exact hI.alloc _
          clear hW hAlt hIlt
          generalize wA.heap.size = gi at *
          generalize wC.heap.size = gm at *
          cases z
          · skip
            refine wp_region_grow2 43 (fun k => Nat.beq k 6 || (Nat.ble 116 k && Nat.ble k 157)) _ [] (fun j x' q => (frFL a b c i zb).getD j (fun _ _ => True) x' q) (fun _ => false) (fun f => #[.agg #[.int .u64 a.a0, .int .u64 a.a1, .int .u64 a.a2, .int .u64 a.a3, .int .u64 a.a4], .agg #[.int .u64 b.a0, .int .u64 b.a1, .int .u64 b.a2, .int .u64 b.a3, .int .u64 b.a4], .agg #[.int .u64 c.a0, .int .u64 c.a1, .int .u64 c.a2, .int .u64 c.a3, .int .u64 c.a4], .pointer (some ⟨w.heap.size, 0, none⟩), .pointer (some ⟨w.heap.size + 1, 0, none⟩), .pointer (some ⟨w.heap.size + 1 + 1, 0, none⟩), f 6, .pointer (some ⟨g7, 0, none⟩), .pointer (some ⟨g8, 0, none⟩), .pointer (some ⟨g9, 0, none⟩), .pointer (some ⟨g10, 0, none⟩), .pointer (some ⟨gi, 0, none⟩), .pointer (some ⟨gm, 0, none⟩), .bool true, .bool false, .agg #[.int .u64 a.a0, .int .u64 a.a1, .int .u64 a.a2, .int .u64 a.a3, .int .u64 a.a4], .agg #[.int .u64 b.a0, .int .u64 b.a1, .int .u64 b.a2, .int .u64 b.a3, .int .u64 b.a4], .agg #[.int .u64 c.a0, .int .u64 c.a1, .int .u64 c.a2, .int .u64 c.a3, .int .u64 c.a4], .slice (some ⟨gs, 0, none⟩) 3 3, .bool true, .bool false, f5 21, f5 22, .agg #[.int .u64 (Fe.addE a b).a0, .int .u64 (Fe.addE a b).a1, .int .u64 (Fe.addE a b).a2, .int .u64 (Fe.addE a b).a3, .int .u64 (Fe.addE a b).a4], f5 24, f5 25, .agg #[.int .u64 (Fe.mulE a b).a0, .int .u64 (Fe.mulE a b).a1, .int .u64 (Fe.mulE a b).a2, .int .u64 (Fe.mulE a b).a3, .int .u64 (Fe.mulE a b).a4], f6 27, f6 28, f6 29, f6 30, f6 31, f6 32, f6 33, f6 34, f6 35, f6 36, f6 37, f6 38, f6 39, f6 40, f6 41, f6 42, f6 43, f6 44, f6 45, f6 46, f6 47, f6 48, f6 49, f6 50, f6 51, f6 52, f6 53, f6 54, f6 55, f6 56, f6 57, f6 58, f6 59, f6 60, f6 61, f6 62, f6 63, .bool false, f8 65, f8 66, .agg #[.int .u64 (Fe.mulE c (Fe.addE a b)).a0, .int .u64 (Fe.mulE c (Fe.addE a b)).a1, .int .u64 (Fe.mulE c (Fe.addE a b)).a2, .int .u64 (Fe.mulE c (Fe.addE a b)).a3, .int .u64 (Fe.mulE c (Fe.addE a b)).a4], f8 68, f8 69, f8 70, f8 71, f8 72, f8 73, .agg #[.int .u64 (Fe.addE (Fe.mulE c a) (Fe.mulE c b)).a0, .int .u64 (Fe.addE (Fe.mulE c a) (Fe.mulE c b)).a1, .int .u64 (Fe.addE (Fe.mulE c a) (Fe.mulE c b)).a2, .int .u64 (Fe.addE (Fe.mulE c a) (Fe.mulE c b)).a3, .int .u64 (Fe.addE (Fe.mulE c a) (Fe.mulE c b)).a4], f9 75, f9 76, f9 77, f9 78, f9 79, f9 80, f9 81, f9 82, f9 83, f9 84, f9 85, f9 86, f9 87, f9 88, f9 89, f9 90, f9 91, f9 92, f9 93, f9 94, f9 95, f9 96, f9 97, f9 98, f9 99, f9 100, f9 101, f9 102, f9 103, f9 104, f9 105, f9 106, f9 107, f9 108, f9 109, f9 110, .bool false, .agg #[.int .u64 a.a0, .int .u64 a.a1, .int .u64 a.a2, .int .u64 a.a3, .int .u64 a.a4], .agg #[.int .u64 i.a0, .int .u64 i.a1, .int .u64 i.a2, .int .u64 i.a3, .int .u64 i.a4], .agg #[.int .u64 1, .int .u64 0, .int .u64 0, .int .u64 0, .int .u64 0], .agg #[.int .u64 Fe.m1.a0, .int .u64 Fe.m1.a1, .int .u64 Fe.m1.a2, .int .u64 Fe.m1.a3, .int .u64 Fe.m1.a4], f 116, f 117, f 118, f 119, f 120, f 121, f 122, f 123, f 124, f 125, f 126, f 127, f 128, f 129, f 130, f 131, f 132, f 133, f 134, f 135, f 136, f 137, f 138, f 139, f 140, f 141, f 142, f 143, f 144, f 145, f 146, f 147, f 148, f 149, f 150, f 151, f 152, f 153, f 154, f 155, f 156, f 157]) (fun f => rfl) (by kernel_rfl) (by kernel_rfl) (by kernel_rfl) (by kernel_rfl) (by kernel_rfl) (frFS _ _ _ _ _) (fun _ _ _ h => by cases h) ?_ ?_
            · refine steps2_cons ?_ ?_
              · intro f w1 hb hd Q hK
                clear hd
                have hK := Lib.hid hK
                obtain ⟨c0, c1, c2, c3, c4⟩ := blk5 (hS.below hb)
                go_wp2
                exact hK.out _ _ rfl (Below.refl _ _) (fun h => by cases h)
              refine steps2_cons ?_ ?_
              · intro f w1 hb hd Q hK
                clear hd
                have hK := Lib.hid hK
                obtain ⟨c0, c1, c2, c3, c4⟩ := blk5 (hP.below hb)
                go_wp2
                exact hK.out _ _ rfl (Below.refl _ _) (fun h => by cases h)
              refine steps2_cons ?_ ?_
              · intro f w1 hb hd Q hK
                clear hd
                have hK := Lib.hid hK
                obtain ⟨c0, c1, c2, c3, c4⟩ := blk5 (hX.below hb)
                go_wp2
                exact hK.out _ _ rfl (Below.refl _ _) (fun h => by cases h)
              refine steps2_cons ?_ ?_
              · intro f w1 hb hd Q hK
                clear hd
                have hK := Lib.hid hK
                obtain ⟨c0, c1, c2, c3, c4⟩ := blk5 (hY.below hb)
                go_wp2
                exact hK.out _ _ rfl (Below.refl _ _) (fun h => by cases h)
              refine steps2_cons ?_ ?_
              · intro f w1 hb hd Q hK
                clear hd
                have hK := Lib.hid hK
                obtain ⟨c0, c1, c2, c3, c4⟩ := blk5 (hI.below hb)
                go_wp2
                exact hK.out _ _ rfl (Below.refl _ _) (fun h => by cases h)
              refine steps2_cons ?_ ?_
              · intro f w1 hb hd Q hK
                clear hd
                have hK := Lib.hid hK
                obtain ⟨c0, c1, c2, c3, c4⟩ := blk5 (hM.below hb)
                go_wp2
                exact hK.out _ _ rfl (Below.refl _ _) (fun h => by cases h)
              refine steps2_cons ?_ ?_
              · intro f w1 hb hd Q hK
                clear hd
                have hK := Lib.hid hK
                obtain ⟨c0, c1, c2, c3, c4⟩ := blk5 (hA.below hb)
                go_wp2
                exact hK.out _ _ rfl (Below.refl _ _) (fun h => by cases h)
              refine steps2_cons ?_ ?_
              · intro f w1 hb hd Q hK
                clear hd
                have hK := Lib.hid hK
                obtain ⟨c0, c1, c2, c3, c4⟩ := blk5 (hB.below hb)
                go_wp2
                exact hK.out _ _ rfl (Below.refl _ _) (fun h => by cases h)
              refine steps2_cons ?_ ?_
              · intro f w1 hb hd Q hK
                have e122 : f 122 = .agg #[.int .u64 a.a0, .int .u64 a.a1, .int .u64 a.a2, .int .u64 a.a3, .int .u64 a.a4] := hd.1 rfl
                have e123 : f 123 = .agg #[.int .u64 b.a0, .int .u64 b.a1, .int .u64 b.a2, .int .u64 b.a3, .int .u64 b.a4] := hd.2.1 rfl
                clear hd
                simp only [e122, e123] at hK
                have hK := Lib.hid hK
                go_wp2_with fail
                refine ((sub_E a b) _).mono ?_
                rintro e w2 ⟨rfl, hb2⟩
                go_wp2
                exact hK.out _ _ rfl hb2 (fun h => by cases h)
              refine steps2_cons ?_ ?_
              · intro f w1 hb hd Q hK
                have e116 : f 116 = .agg #[.int .u64 (Fe.addE a b).a0, .int .u64 (Fe.addE a b).a1, .int .u64 (Fe.addE a b).a2, .int .u64 (Fe.addE a b).a3, .int .u64 (Fe.addE a b).a4] := hd.1 rfl
                have e117 : f 117 = .agg #[.int .u64 (Fe.mulE a b).a0, .int .u64 (Fe.mulE a b).a1, .int .u64 (Fe.mulE a b).a2, .int .u64 (Fe.mulE a b).a3, .int .u64 (Fe.mulE a b).a4] := hd.2.1 rfl
                have e118 : f 118 = .agg #[.int .u64 (Fe.mulE c (Fe.addE a b)).a0, .int .u64 (Fe.mulE c (Fe.addE a b)).a1, .int .u64 (Fe.mulE c (Fe.addE a b)).a2, .int .u64 (Fe.mulE c (Fe.addE a b)).a3, .int .u64 (Fe.mulE c (Fe.addE a b)).a4] := hd.2.2.1 rfl
                have e119 : f 119 = .agg #[.int .u64 (Fe.addE (Fe.mulE c a) (Fe.mulE c b)).a0, .int .u64 (Fe.addE (Fe.mulE c a) (Fe.mulE c b)).a1, .int .u64 (Fe.addE (Fe.mulE c a) (Fe.mulE c b)).a2, .int .u64 (Fe.addE (Fe.mulE c a) (Fe.mulE c b)).a3, .int .u64 (Fe.addE (Fe.mulE c a) (Fe.mulE c b)).a4] := hd.2.2.2.1 rfl
                have e120 : f 120 = .agg #[.int .u64 i.a0, .int .u64 i.a1, .int .u64 i.a2, .int .u64 i.a3, .int .u64 i.a4] := hd.2.2.2.2.1 rfl
                have e121 : f 121 = .agg #[.int .u64 Fe.m1.a0, .int .u64 Fe.m1.a1, .int .u64 Fe.m1.a2, .int .u64 Fe.m1.a3, .int .u64 Fe.m1.a4] := hd.2.2.2.2.2.1 rfl
                have e124 : f 124 = .agg #[.int .u64 (Fe.subE a b).a0, .int .u64 (Fe.subE a b).a1, .int .u64 (Fe.subE a b).a2, .int .u64 (Fe.subE a b).a3, .int .u64 (Fe.subE a b).a4] := hd.2.2.2.2.2.2.1 rfl
                clear hd
                simp only [e116, e117, e118, e119, e120, e121, e124] at hK
                have hK := Lib.hid hK
                go_wp2
                exact hK.out _ _ ⟨_, rfl, Blk.new _ _ _⟩ ((Below.refl _ _).alloc (Nat.le_refl _) _) (fun h => by cases h)
              refine steps2_cons ?_ ?_
              · intro f w1 hb hd Q hK
                obtain ⟨g125, e125, bk125⟩ := (hd.1 rfl : SvB (Fe.addE a b) (Fe.mulE a b) (Fe.mulE c (Fe.addE a b)) (Fe.addE (Fe.mulE c a) (Fe.mulE c b)) i Fe.m1 (Fe.subE a b) (f 125) w1)
                clear hd
                simp only [e125] at hK
                have hK := Lib.hid hK
                go_wp2_with fail
                refine (right_c g125 7 7 (by decide) (xs7 (Fe.addE a b) (Fe.mulE a b) (Fe.mulE c (Fe.addE a b)) (Fe.addE (Fe.mulE c a) (Fe.mulE c b)) i Fe.m1 (Fe.subE a b)) hw7.out _ bk125.lt (cells7 _ _ _ _ _ _ _ bk125)).mono ?_
                rintro e w2 ⟨rfl, hb2⟩
                go_wp2
                exact hK.out _ _ (by show Value.bool _ = _; rw [hr7.out]) hb2 (fun h => by cases h)
              refine steps2_cons ?_ ?_
              · intro f w1 hb hd Q hK
                have e126 : f 126 = .bool true := hd.1 rfl
                clear hd
                simp only [e126] at hK
                have hK := Lib.hid hK
                go_wp2
                exact hK.out _ _ rfl (Below.refl _ _) (fun h => by cases h)
              refine steps2_cons ?_ ?_
              · intro f w1 hb hd Q hK
                have e127 : f 127 = .bool true := hd.1 rfl
                clear hd
                simp only [e127] at hK
                have hK := Lib.hid hK
                obtain ⟨c0, c1, c2, c3, c4⟩ := blk5 (hA.below hb)
                go_wp2
                exact hK.out _ _ rfl (Below.refl _ _) (fun h => by cases h)
              refine steps2_cons ?_ ?_
              · intro f w1 hb hd Q hK
                have e127 : f 127 = .bool true := hd.1 rfl
                clear hd
                simp only [e127] at hK
                have hK := Lib.hid hK
                obtain ⟨c0, c1, c2, c3, c4⟩ := blk5 (hI.below hb)
                go_wp2
                exact hK.out _ _ rfl (Below.refl _ _) (fun h => by cases h)
              refine steps2_cons ?_ ?_
              · intro f w1 hb hd Q hK
                have e128 : f 128 = .agg #[.int .u64 a.a0, .int .u64 a.a1, .int .u64 a.a2, .int .u64 a.a3, .int .u64 a.a4] := hd.1 rfl
                have e129 : f 129 = .agg #[.int .u64 i.a0, .int .u64 i.a1, .int .u64 i.a2, .int .u64 i.a3, .int .u64 i.a4] := hd.2.1 rfl
                have e127 : f 127 = .bool true := hd.2.2.1 rfl
                clear hd
                simp only [e128, e129, e127] at hK
                have hK := Lib.hid hK
                go_wp2_with fail
                refine ((mul_E a i hwa hwi) _).mono ?_
                rintro e w2 ⟨rfl, hb2⟩
                go_wp2
                exact hK.out _ _ rfl hb2 (fun h => by cases h)
              refine steps2_cons ?_ ?_
              · intro f w1 hb hd Q hK
                have e127 : f 127 = .bool true := hd.2.1 rfl
                clear hd
                simp only [e127] at hK
                have hK := Lib.hid hK
                go_wp2_with fail
                refine (one_v _).mono ?_
                rintro e w2 ⟨rfl, hb2⟩
                go_wp2
                exact hK.out _ _ rfl hb2 (fun h => by cases h)
              refine steps2_cons ?_ ?_
              · intro f w1 hb hd Q hK
                have e130 : f 130 = .agg #[.int .u64 (Fe.mulE a i).a0, .int .u64 (Fe.mulE a i).a1, .int .u64 (Fe.mulE a i).a2, .int .u64 (Fe.mulE a i).a3, .int .u64 (Fe.mulE a i).a4] := hd.1 rfl
                have e131 : f 131 = .agg #[.int .u64 1, .int .u64 0, .int .u64 0, .int .u64 0, .int .u64 0] := hd.2.1 rfl
                have e127 : f 127 = .bool true := hd.2.2.2.1 rfl
                clear hd
                simp only [e130, e131, e127] at hK
                have hK := Lib.hid hK
                go_wp2_with fail
                refine (cai.out _).mono ?_
                rintro e w2 ⟨rfl, hb2⟩
                go_wp2
                exact hK.out _ _ rfl hb2 (fun h => by cases h)
              refine steps2_cons ?_ ?_
              · intro f w1 hb hd Q hK
                have e127 : f 127 = .bool true := hd.1 rfl
                clear hd
                simp only [e127] at hK
                have hK := Lib.hid hK
                obtain ⟨c0, c1, c2, c3, c4⟩ := blk5 (hA.below hb)
                go_wp2
                exact hK.out _ _ rfl (Below.refl _ _) (fun h => by cases h)
              refine steps2_cons ?_ ?_
              · intro f w1 hb hd Q hK
                have e133 : f 133 = .agg #[.int .u64 a.a0, .int .u64 a.a1, .int .u64 a.a2, .int .u64 a.a3, .int .u64 a.a4] := hd.1 rfl
                have e127 : f 127 = .bool true := hd.2.2.1 rfl
                clear hd
                simp only [e133, e127] at hK
                have hK := Lib.hid hK
                go_wp2_with fail
                refine (cza.out _).mono ?_
                rintro e w2 ⟨rfl, hb2⟩
                go_wp2
                exact hK.out _ _ rfl hb2 (fun h => by cases h)
              refine steps2_cons ?_ ?_
              · intro f w1 hb hd Q hK
                have e134 : f 134 = .bool false := hd.1 rfl
                have e127 : f 127 = .bool true := hd.2.1 rfl
                clear hd
                simp only [e134, e127] at hK
                have hK := Lib.hid hK
                go_wp2
                exact hK.out _ _ rfl (Below.refl _ _) (fun h => by cases h)
              refine steps2_cons ?_ ?_
              · intro f w1 hb hd Q hK
                have e132 : f 132 = .bool true := hd.1 rfl
                have e135 : f 135 = .bool true := hd.2.1 rfl
                have e127 : f 127 = .bool true := hd.2.2.1 rfl
                clear hd
                simp only [e132, e135, e127] at hK
                have hK := Lib.hid hK
                go_wp2
                exact hK.out _ _ rfl (Below.refl _ _) (fun h => by cases h)
              refine steps2_cons ?_ ?_
              · intro f w1 hb hd Q hK
                have e127 : f 127 = .bool true := hd.1 rfl
                have e136 : f 136 = .bool true := hd.2.1 rfl
                clear hd
                simp only [e127, e136] at hK
                have hK := Lib.hid hK
                go_wp2
                exact hK.out _ _ rfl (Below.refl _ _) (fun h => by cases h)
              refine steps2_cons ?_ ?_
              · intro f w1 hb hd Q hK
                have e137 : f 137 = .bool true := hd.1 rfl
                clear hd
                simp only [e137] at hK
                have hK := Lib.hid hK
                go_wp2
                exact hK.out _ _ rfl (Below.refl _ _) (fun h => by cases h)
              refine steps2_cons ?_ ?_
              · intro f w1 hb hd Q hK
                have e138 : f 138 = .bool true := hd.1 rfl
                clear hd
                simp only [e138] at hK
                have hK := Lib.hid hK
                obtain ⟨c0, c1, c2, c3, c4⟩ := blk5 (hM.below hb)
                go_wp2
                exact hK.out _ _ rfl (Below.refl _ _) (fun h => by cases h)
              refine steps2_cons ?_ ?_
              · intro f w1 hb hd Q hK
                have e138 : f 138 = .bool true := hd.1 rfl
                clear hd
                simp only [e138] at hK
                have hK := Lib.hid hK
                obtain ⟨c0, c1, c2, c3, c4⟩ := blk5 (hM.below hb)
                go_wp2
                exact hK.out _ _ rfl (Below.refl _ _) (fun h => by cases h)
              refine steps2_cons ?_ ?_
              · intro f w1 hb hd Q hK
                have e139 : f 139 = .agg #[.int .u64 Fe.m1.a0, .int .u64 Fe.m1.a1, .int .u64 Fe.m1.a2, .int .u64 Fe.m1.a3, .int .u64 Fe.m1.a4] := hd.1 rfl
                have e140 : f 140 = .agg #[.int .u64 Fe.m1.a0, .int .u64 Fe.m1.a1, .int .u64 Fe.m1.a2, .int .u64 Fe.m1.a3, .int .u64 Fe.m1.a4] := hd.2.1 rfl
                have e138 : f 138 = .bool true := hd.2.2.1 rfl
                clear hd
                simp only [e139, e140, e138] at hK
                have hK := Lib.hid hK
                go_wp2_with fail
                refine ((mul_E Fe.m1 Fe.m1 Fe.m1_w Fe.m1_w) _).mono ?_
                rintro e w2 ⟨rfl, hb2⟩
                go_wp2
                exact hK.out _ _ rfl hb2 (fun h => by cases h)
              refine steps2_cons ?_ ?_
              · intro f w1 hb hd Q hK
                have e138 : f 138 = .bool true := hd.2.1 rfl
                clear hd
                simp only [e138] at hK
                have hK := Lib.hid hK
                go_wp2_with fail
                refine (one_v _).mono ?_
                rintro e w2 ⟨rfl, hb2⟩
                go_wp2
                exact hK.out _ _ rfl hb2 (fun h => by cases h)
              refine steps2_cons ?_ ?_
              · intro f w1 hb hd Q hK
                have e141 : f 141 = .agg #[.int .u64 (Fe.mulE Fe.m1 Fe.m1).a0, .int .u64 (Fe.mulE Fe.m1 Fe.m1).a1, .int .u64 (Fe.mulE Fe.m1 Fe.m1).a2, .int .u64 (Fe.mulE Fe.m1 Fe.m1).a3, .int .u64 (Fe.mulE Fe.m1 Fe.m1).a4] := hd.1 rfl
                have e142 : f 142 = .agg #[.int .u64 1, .int .u64 0, .int .u64 0, .int .u64 0, .int .u64 0] := hd.2.1 rfl
                have e138 : f 138 = .bool true := hd.2.2.2.1 rfl
                clear hd
                simp only [e141, e142, e138] at hK
                have hK := Lib.hid hK
                go_wp2_with fail
                refine (cmm.out _).mono ?_
                rintro e w2 ⟨rfl, hb2⟩
                go_wp2
                exact hK.out _ _ rfl hb2 (fun h => by cases h)
              refine steps2_cons ?_ ?_
              · intro f w1 hb hd Q hK
                have e138 : f 138 = .bool true := hd.1 rfl
                have e143 : f 143 = .bool true := hd.2.1 rfl
                clear hd
                simp only [e138, e143] at hK
                have hK := Lib.hid hK
                go_wp2
                exact hK.out _ _ rfl (Below.refl _ _) (fun h => by cases h)
              refine steps2_cons ?_ ?_
              · intro f w1 hb hd Q hK
                have e144 : f 144 = .bool true := hd.1 rfl
                clear hd
                simp only [e144] at hK
                have hK := Lib.hid hK
                go_wp2
                exact hK.out _ _ rfl (Below.refl _ _) (fun h => by cases h)
              refine steps2_cons ?_ ?_
              · intro f w1 hb hd Q hK
                have e145 : f 145 = .bool true := hd.1 rfl
                clear hd
                simp only [e145] at hK
                have hK := Lib.hid hK
                obtain ⟨c0, c1, c2, c3, c4⟩ := blk5 (hA.below hb)
                go_wp2
                exact hK.out _ _ rfl (Below.refl _ _) (fun h => by cases h)
              refine steps2_cons ?_ ?_
              · intro f w1 hb hd Q hK
                have e145 : f 145 = .bool true := hd.1 rfl
                clear hd
                simp only [e145] at hK
                have hK := Lib.hid hK
                obtain ⟨c0, c1, c2, c3, c4⟩ := blk5 (hB.below hb)
                go_wp2
                exact hK.out _ _ rfl (Below.refl _ _) (fun h => by cases h)
              refine steps2_cons ?_ ?_
              · intro f w1 hb hd Q hK
                have e146 : f 146 = .agg #[.int .u64 a.a0, .int .u64 a.a1, .int .u64 a.a2, .int .u64 a.a3, .int .u64 a.a4] := hd.1 rfl
                have e147 : f 147 = .agg #[.int .u64 b.a0, .int .u64 b.a1, .int .u64 b.a2, .int .u64 b.a3, .int .u64 b.a4] := hd.2.1 rfl
                have e145 : f 145 = .bool true := hd.2.2.1 rfl
                clear hd
                simp only [e146, e147, e145] at hK
                have hK := Lib.hid hK
                go_wp2_with fail
                refine ((mul_E a b hwa hwb) _).mono ?_
                rintro e w2 ⟨rfl, hb2⟩
                go_wp2
                exact hK.out _ _ rfl hb2 (fun h => by cases h)
              refine steps2_cons ?_ ?_
              · intro f w1 hb hd Q hK
                have e148 : f 148 = .agg #[.int .u64 (Fe.mulE a b).a0, .int .u64 (Fe.mulE a b).a1, .int .u64 (Fe.mulE a b).a2, .int .u64 (Fe.mulE a b).a3, .int .u64 (Fe.mulE a b).a4] := hd.1 rfl
                have e145 : f 145 = .bool true := hd.2.2.1 rfl
                clear hd
                simp only [e148, e145] at hK
                have hK := Lib.hid hK
                go_wp2_with fail
                refine (cab.out _).mono ?_
                rintro e w2 ⟨rfl, hb2⟩
                go_wp2
                exact hK.out _ _ rfl hb2 (fun h => by cases h)
              refine steps2_cons ?_ ?_
              · intro f w1 hb hd Q hK
                have e145 : f 145 = .bool true := hd.1 rfl
                clear hd
                simp only [e145] at hK
                have hK := Lib.hid hK
                obtain ⟨c0, c1, c2, c3, c4⟩ := blk5 (hA.below hb)
                go_wp2
                exact hK.out _ _ rfl (Below.refl _ _) (fun h => by cases h)
              refine steps2_cons ?_ ?_
              · intro f w1 hb hd Q hK
                have e150 : f 150 = .agg #[.int .u64 a.a0, .int .u64 a.a1, .int .u64 a.a2, .int .u64 a.a3, .int .u64 a.a4] := hd.1 rfl
                have e145 : f 145 = .bool true := hd.2.2.1 rfl
                clear hd
                simp only [e150, e145] at hK
                have hK := Lib.hid hK
                go_wp2_with fail
                refine (cza.out _).mono ?_
                rintro e w2 ⟨rfl, hb2⟩
                go_wp2
                exact hK.out _ _ rfl hb2 (fun h => by cases h)
              refine steps2_cons ?_ ?_
              · intro f w1 hb hd Q hK
                have e151 : f 151 = .bool false := hd.1 rfl
                have e145 : f 145 = .bool true := hd.2.2.1 rfl
                clear hd
                simp only [e151, e145] at hK
                have hK := Lib.hid hK
                go_wp2
                exact hK.out _ _ rfl (Below.refl _ _) (fun h => by cases h)
              refine steps2_cons ?_ ?_
              · intro f w1 hb hd Q hK
                have e152 : f 152 = .bool false := hd.1 rfl
                clear hd
                simp only [e152] at hK
                have hK := Lib.hid hK
                obtain ⟨c0, c1, c2, c3, c4⟩ := blk5 (hB.below hb)
                go_wp2
                exact hK.out _ _ rfl (Below.refl _ _) (fun h => by cases h)
              refine steps2_cons ?_ ?_
              · intro f w1 hb hd Q hK
                have e153 : f 153 = .agg #[.int .u64 b.a0, .int .u64 b.a1, .int .u64 b.a2, .int .u64 b.a3, .int .u64 b.a4] := hd.1 rfl
                have e152 : f 152 = .bool false := hd.2.1 rfl
                clear hd
                simp only [e153, e152] at hK
                have hK := Lib.hid hK
                go_wp2_with fail
                refine (czb.out _).mono ?_
                rintro e w2 ⟨rfl, hb2⟩
                go_wp2
                exact hK.out _ _ rfl hb2 (fun h => by cases h)
              refine steps2_cons ?_ ?_
              · intro f w1 hb hd Q hK
                have e152 : f 152 = .bool false := hd.1 rfl
                have e154 : f 154 = .bool zb := hd.2.1 rfl
                have e145 : f 145 = .bool true := hd.2.2.1 rfl
                clear hd
                simp only [e152, e154, e145] at hK
                have hK := Lib.hid hK
                go_wp2
                exact hK.out _ _ rfl (Below.refl _ _) (fun h => by cases h)
              refine steps2_cons ?_ ?_
              · intro f w1 hb hd Q hK
                have e149 : f 149 = .bool zb := hd.1 rfl
                have e155 : f 155 = .bool zb := hd.2.1 rfl
                have e145 : f 145 = .bool true := hd.2.2.1 rfl
                clear hd
                simp only [e149, e155, e145] at hK
                have hK := Lib.hid hK
                go_wp2
                exact hK.out _ _ (by show Value.bool _ = _; simp) (Below.refl _ _) (fun h => by cases h)
              refine steps2_cons ?_ ?_
              · intro f w1 hb hd Q hK
                have e145 : f 145 = .bool true := hd.1 rfl
                have e156 : f 156 = .bool true := hd.2.1 rfl
                clear hd
                simp only [e145, e156] at hK
                have hK := Lib.hid hK
                go_wp2
                exact hK.out _ _ rfl (Below.refl _ _) (fun h => by cases h)
              refine steps2_cons ?_ ?_
              · intro f w1 hb hd Q hK
                have e157 : f 157 = .bool true := hd.1 rfl
                clear hd
                simp only [e157] at hK
                have hK := Lib.hid hK
                go_wp2
                exact hK.out _ _ rfl (Below.refl _ _) (fun h => by cases h)
              trivial
            · intro f13 y13 hb hf hne
              refine wpList_nil ?_
              have d6 : f13 6 = .bool true := hf 42 _ _ (by decide) rfl rfl
              clear hf hne
              simp only [d6]
              go_wp2
              go_returns
              exact ⟨rfl, hb0.trans (hb.mono hb0.size)⟩
          · skip
            refine wp_region_grow2 43 (fun k => Nat.beq k 6 || (Nat.ble 116 k && Nat.ble k 157)) _ [] (fun j x' q => (frTL a b c i).getD j (fun _ _ => True) x' q) (fun _ => false) (fun f => #[.agg #[.int .u64 a.a0, .int .u64 a.a1, .int .u64 a.a2, .int .u64 a.a3, .int .u64 a.a4], .agg #[.int .u64 b.a0, .int .u64 b.a1, .int .u64 b.a2, .int .u64 b.a3, .int .u64 b.a4], .agg #[.int .u64 c.a0, .int .u64 c.a1, .int .u64 c.a2, .int .u64 c.a3, .int .u64 c.a4], .pointer (some ⟨w.heap.size, 0, none⟩), .pointer (some ⟨w.heap.size + 1, 0, none⟩), .pointer (some ⟨w.heap.size + 1 + 1, 0, none⟩), f 6, .pointer (some ⟨g7, 0, none⟩), .pointer (some ⟨g8, 0, none⟩), .pointer (some ⟨g9, 0, none⟩), .pointer (some ⟨g10, 0, none⟩), .pointer (some ⟨gi, 0, none⟩), .pointer (some ⟨gm, 0, none⟩), .bool true, .bool false, .agg #[.int .u64 a.a0, .int .u64 a.a1, .int .u64 a.a2, .int .u64 a.a3, .int .u64 a.a4], .agg #[.int .u64 b.a0, .int .u64 b.a1, .int .u64 b.a2, .int .u64 b.a3, .int .u64 b.a4], .agg #[.int .u64 c.a0, .int .u64 c.a1, .int .u64 c.a2, .int .u64 c.a3, .int .u64 c.a4], .slice (some ⟨gs, 0, none⟩) 3 3, .bool true, .bool false, f5 21, f5 22, .agg #[.int .u64 (Fe.addE a b).a0, .int .u64 (Fe.addE a b).a1, .int .u64 (Fe.addE a b).a2, .int .u64 (Fe.addE a b).a3, .int .u64 (Fe.addE a b).a4], f5 24, f5 25, .agg #[.int .u64 (Fe.mulE a b).a0, .int .u64 (Fe.mulE a b).a1, .int .u64 (Fe.mulE a b).a2, .int .u64 (Fe.mulE a b).a3, .int .u64 (Fe.mulE a b).a4], f6 27, f6 28, f6 29, f6 30, f6 31, f6 32, f6 33, f6 34, f6 35, f6 36, f6 37, f6 38, f6 39, f6 40, f6 41, f6 42, f6 43, f6 44, f6 45, f6 46, f6 47, f6 48, f6 49, f6 50, f6 51, f6 52, f6 53, f6 54, f6 55, f6 56, f6 57, f6 58, f6 59, f6 60, f6 61, f6 62, f6 63, .bool false, f8 65, f8 66, .agg #[.int .u64 (Fe.mulE c (Fe.addE a b)).a0, .int .u64 (Fe.mulE c (Fe.addE a b)).a1, .int .u64 (Fe.mulE c (Fe.addE a b)).a2, .int .u64 (Fe.mulE c (Fe.addE a b)).a3, .int .u64 (Fe.mulE c (Fe.addE a b)).a4], f8 68, f8 69, f8 70, f8 71, f8 72, f8 73, .agg #[.int .u64 (Fe.addE (Fe.mulE c a) (Fe.mulE c b)).a0, .int .u64 (Fe.addE (Fe.mulE c a) (Fe.mulE c b)).a1, .int .u64 (Fe.addE (Fe.mulE c a) (Fe.mulE c b)).a2, .int .u64 (Fe.addE (Fe.mulE c a) (Fe.mulE c b)).a3, .int .u64 (Fe.addE (Fe.mulE c a) (Fe.mulE c b)).a4], f9 75, f9 76, f9 77, f9 78, f9 79, f9 80, f9 81, f9 82, f9 83, f9 84, f9 85, f9 86, f9 87, f9 88, f9 89, f9 90, f9 91, f9 92, f9 93, f9 94, f9 95, f9 96, f9 97, f9 98, f9 99, f9 100, f9 101, f9 102, f9 103, f9 104, f9 105, f9 106, f9 107, f9 108, f9 109, f9 110, .bool false, .agg #[.int .u64 a.a0, .int .u64 a.a1, .int .u64 a.a2, .int .u64 a.a3, .int .u64 a.a4], .agg #[.int .u64 i.a0, .int .u64 i.a1, .int .u64 i.a2, .int .u64 i.a3, .int .u64 i.a4], .agg #[.int .u64 1, .int .u64 0, .int .u64 0, .int .u64 0, .int .u64 0], .agg #[.int .u64 Fe.m1.a0, .int .u64 Fe.m1.a1, .int .u64 Fe.m1.a2, .int .u64 Fe.m1.a3, .int .u64 Fe.m1.a4], f 116, f 117, f 118, f 119, f 120, f 121, f 122, f 123, f 124, f 125, f 126, f 127, f 128, f 129, f 130, f 131, f 132, f 133, f 134, f 135, f 136, f 137, f 138, f 139, f 140, f 141, f 142, f 143, f 144, f 145, f 146, f 147, f 148, f 149, f 150, f 151, f 152, f 153, f 154, f 155, f 156, f 157]) (fun f => rfl) (by kernel_rfl) (by kernel_rfl) (by kernel_rfl) (by kernel_rfl) (by kernel_rfl) (frTS _ _ _ _) (fun _ _ _ h => by cases h) ?_ ?_
            · refine steps2_cons ?_ ?_
              · intro f w1 hb hd Q hK
                clear hd
                have hK := Lib.hid hK
                obtain ⟨c0, c1, c2, c3, c4⟩ := blk5 (hS.below hb)
                go_wp2
                exact hK.out _ _ rfl (Below.refl _ _) (fun h => by cases h)
              refine steps2_cons ?_ ?_
              · intro f w1 hb hd Q hK
                clear hd
                have hK := Lib.hid hK
                obtain ⟨c0, c1, c2, c3, c4⟩ := blk5 (hP.below hb)
                go_wp2
                exact hK.out _ _ rfl (Below.refl _ _) (fun h => by cases h)
              refine steps2_cons ?_ ?_
              · intro f w1 hb hd Q hK
                clear hd
                have hK := Lib.hid hK
                obtain ⟨c0, c1, c2, c3, c4⟩ := blk5 (hX.below hb)
                go_wp2
                exact hK.out _ _ rfl (Below.refl _ _) (fun h => by cases h)
              refine steps2_cons ?_ ?_
              · intro f w1 hb hd Q hK
                clear hd
                have hK := Lib.hid hK
                obtain ⟨c0, c1, c2, c3, c4⟩ := blk5 (hY.below hb)
                go_wp2
                exact hK.out _ _ rfl (Below.refl _ _) (fun h => by cases h)
              refine steps2_cons ?_ ?_
              · intro f w1 hb hd Q hK
                clear hd
                have hK := Lib.hid hK
                obtain ⟨c0, c1, c2, c3, c4⟩ := blk5 (hI.below hb)
                go_wp2
                exact hK.out _ _ rfl (Below.refl _ _) (fun h => by cases h)
              refine steps2_cons ?_ ?_
              · intro f w1 hb hd Q hK
                clear hd
                have hK := Lib.hid hK
                obtain ⟨c0, c1, c2, c3, c4⟩ := blk5 (hM.below hb)
                go_wp2
                exact hK.out _ _ rfl (Below.refl _ _) (fun h => by cases h)
              refine steps2_cons ?_ ?_
              · intro f w1 hb hd Q hK
                clear hd
                have hK := Lib.hid hK
                obtain ⟨c0, c1, c2, c3, c4⟩ := blk5 (hA.below hb)
                go_wp2
                exact hK.out _ _ rfl (Below.refl _ _) (fun h => by cases h)
              refine steps2_cons ?_ ?_
              · intro f w1 hb hd Q hK
                clear hd
                have hK := Lib.hid hK
                obtain ⟨c0, c1, c2, c3, c4⟩ := blk5 (hB.below hb)
                go_wp2
                exact hK.out _ _ rfl (Below.refl _ _) (fun h => by cases h)
              refine steps2_cons ?_ ?_
              · intro f w1 hb hd Q hK
                have e122 : f 122 = .agg #[.int .u64 a.a0, .int .u64 a.a1, .int .u64 a.a2, .int .u64 a.a3, .int .u64 a.a4] := hd.1 rfl
                have e123 : f 123 = .agg #[.int .u64 b.a0, .int .u64 b.a1, .int .u64 b.a2, .int .u64 b.a3, .int .u64 b.a4] := hd.2.1 rfl
                clear hd
                simp only [e122, e123] at hK
                have hK := Lib.hid hK
                go_wp2_with fail
                refine ((sub_E a b) _).mono ?_
                rintro e w2 ⟨rfl, hb2⟩
                go_wp2
                exact hK.out _ _ rfl hb2 (fun h => by cases h)
              refine steps2_cons ?_ ?_
              · intro f w1 hb hd Q hK
                have e116 : f 116 = .agg #[.int .u64 (Fe.addE a b).a0, .int .u64 (Fe.addE a b).a1, .int .u64 (Fe.addE a b).a2, .int .u64 (Fe.addE a b).a3, .int .u64 (Fe.addE a b).a4] := hd.1 rfl
                have e117 : f 117 = .agg #[.int .u64 (Fe.mulE a b).a0, .int .u64 (Fe.mulE a b).a1, .int .u64 (Fe.mulE a b).a2, .int .u64 (Fe.mulE a b).a3, .int .u64 (Fe.mulE a b).a4] := hd.2.1 rfl
                have e118 : f 118 = .agg #[.int .u64 (Fe.mulE c (Fe.addE a b)).a0, .int .u64 (Fe.mulE c (Fe.addE a b)).a1, .int .u64 (Fe.mulE c (Fe.addE a b)).a2, .int .u64 (Fe.mulE c (Fe.addE a b)).a3, .int .u64 (Fe.mulE c (Fe.addE a b)).a4] := hd.2.2.1 rfl
                have e119 : f 119 = .agg #[.int .u64 (Fe.addE (Fe.mulE c a) (Fe.mulE c b)).a0, .int .u64 (Fe.addE (Fe.mulE c a) (Fe.mulE c b)).a1, .int .u64 (Fe.addE (Fe.mulE c a) (Fe.mulE c b)).a2, .int .u64 (Fe.addE (Fe.mulE c a) (Fe.mulE c b)).a3, .int .u64 (Fe.addE (Fe.mulE c a) (Fe.mulE c b)).a4] := hd.2.2.2.1 rfl
                have e120 : f 120 = .agg #[.int .u64 i.a0, .int .u64 i.a1, .int .u64 i.a2, .int .u64 i.a3, .int .u64 i.a4] := hd.2.2.2.2.1 rfl
                have e121 : f 121 = .agg #[.int .u64 Fe.m1.a0, .int .u64 Fe.m1.a1, .int .u64 Fe.m1.a2, .int .u64 Fe.m1.a3, .int .u64 Fe.m1.a4] := hd.2.2.2.2.2.1 rfl
                have e124 : f 124 = .agg #[.int .u64 (Fe.subE a b).a0, .int .u64 (Fe.subE a b).a1, .int .u64 (Fe.subE a b).a2, .int .u64 (Fe.subE a b).a3, .int .u64 (Fe.subE a b).a4] := hd.2.2.2.2.2.2.1 rfl
                clear hd
                simp only [e116, e117, e118, e119, e120, e121, e124] at hK
                have hK := Lib.hid hK
                go_wp2
                exact hK.out _ _ ⟨_, rfl, Blk.new _ _ _⟩ ((Below.refl _ _).alloc (Nat.le_refl _) _) (fun h => by cases h)
              refine steps2_cons ?_ ?_
              · intro f w1 hb hd Q hK
                obtain ⟨g125, e125, bk125⟩ := (hd.1 rfl : SvB (Fe.addE a b) (Fe.mulE a b) (Fe.mulE c (Fe.addE a b)) (Fe.addE (Fe.mulE c a) (Fe.mulE c b)) i Fe.m1 (Fe.subE a b) (f 125) w1)
                clear hd
                simp only [e125] at hK
                have hK := Lib.hid hK
                go_wp2_with fail
                refine (right_c g125 7 7 (by decide) (xs7 (Fe.addE a b) (Fe.mulE a b) (Fe.mulE c (Fe.addE a b)) (Fe.addE (Fe.mulE c a) (Fe.mulE c b)) i Fe.m1 (Fe.subE a b)) hw7.out _ bk125.lt (cells7 _ _ _ _ _ _ _ bk125)).mono ?_
                rintro e w2 ⟨rfl, hb2⟩
                go_wp2
                exact hK.out _ _ (by show Value.bool _ = _; rw [hr7.out]) hb2 (fun h => by cases h)
              refine steps2_cons ?_ ?_
              · intro f w1 hb hd Q hK
                have e126 : f 126 = .bool true := hd.1 rfl
                clear hd
                simp only [e126] at hK
                have hK := Lib.hid hK
                go_wp2
                exact hK.out _ _ rfl (Below.refl _ _) (fun h => by cases h)
              refine steps2_cons ?_ ?_
              · intro f w1 hb hd Q hK
                have e127 : f 127 = .bool true := hd.1 rfl
                clear hd
                simp only [e127] at hK
                have hK := Lib.hid hK
                obtain ⟨c0, c1, c2, c3, c4⟩ := blk5 (hA.below hb)
                go_wp2
                exact hK.out _ _ rfl (Below.refl _ _) (fun h => by cases h)
              refine steps2_cons ?_ ?_
              · intro f w1 hb hd Q hK
                have e127 : f 127 = .bool true := hd.1 rfl
                clear hd
                simp only [e127] at hK
                have hK := Lib.hid hK
                obtain ⟨c0, c1, c2, c3, c4⟩ := blk5 (hI.below hb)
                go_wp2
                exact hK.out _ _ rfl (Below.refl _ _) (fun h => by cases h)
              refine steps2_cons ?_ ?_
              · intro f w1 hb hd Q hK
                have e128 : f 128 = .agg #[.int .u64 a.a0, .int .u64 a.a1, .int .u64 a.a2, .int .u64 a.a3, .int .u64 a.a4] := hd.1 rfl
                have e129 : f 129 = .agg #[.int .u64 i.a0, .int .u64 i.a1, .int .u64 i.a2, .int .u64 i.a3, .int .u64 i.a4] := hd.2.1 rfl
                have e127 : f 127 = .bool true := hd.2.2.1 rfl
                clear hd
                simp only [e128, e129, e127] at hK
                have hK := Lib.hid hK
                go_wp2_with fail
                refine ((mul_E a i hwa hwi) _).mono ?_
                rintro e w2 ⟨rfl, hb2⟩
                go_wp2
                exact hK.out _ _ rfl hb2 (fun h => by cases h)
              refine steps2_cons ?_ ?_
              · intro f w1 hb hd Q hK
                have e127 : f 127 = .bool true := hd.2.1 rfl
                clear hd
                simp only [e127] at hK
                have hK := Lib.hid hK
                go_wp2_with fail
                refine (one_v _).mono ?_
                rintro e w2 ⟨rfl, hb2⟩
                go_wp2
                exact hK.out _ _ rfl hb2 (fun h => by cases h)
              refine steps2_cons ?_ ?_
              · intro f w1 hb hd Q hK
                have e130 : f 130 = .agg #[.int .u64 (Fe.mulE a i).a0, .int .u64 (Fe.mulE a i).a1, .int .u64 (Fe.mulE a i).a2, .int .u64 (Fe.mulE a i).a3, .int .u64 (Fe.mulE a i).a4] := hd.1 rfl
                have e131 : f 131 = .agg #[.int .u64 1, .int .u64 0, .int .u64 0, .int .u64 0, .int .u64 0] := hd.2.1 rfl
                have e127 : f 127 = .bool true := hd.2.2.2.1 rfl
                clear hd
                simp only [e130, e131, e127] at hK
                have hK := Lib.hid hK
                go_wp2_with fail
                refine (cai.out _).mono ?_
                rintro e w2 ⟨rfl, hb2⟩
                go_wp2
                exact hK.out _ _ rfl hb2 (fun h => by cases h)
              refine steps2_cons ?_ ?_
              · intro f w1 hb hd Q hK
                have e127 : f 127 = .bool true := hd.1 rfl
                clear hd
                simp only [e127] at hK
                have hK := Lib.hid hK
                obtain ⟨c0, c1, c2, c3, c4⟩ := blk5 (hA.below hb)
                go_wp2
                exact hK.out _ _ rfl (Below.refl _ _) (fun h => by cases h)
              refine steps2_cons ?_ ?_
              · intro f w1 hb hd Q hK
                have e133 : f 133 = .agg #[.int .u64 a.a0, .int .u64 a.a1, .int .u64 a.a2, .int .u64 a.a3, .int .u64 a.a4] := hd.1 rfl
                have e127 : f 127 = .bool true := hd.2.2.1 rfl
                clear hd
                simp only [e133, e127] at hK
                have hK := Lib.hid hK
                go_wp2_with fail
                refine (cza.out _).mono ?_
                rintro e w2 ⟨rfl, hb2⟩
                go_wp2
                exact hK.out _ _ rfl hb2 (fun h => by cases h)
              refine steps2_cons ?_ ?_
              · intro f w1 hb hd Q hK
                have e134 : f 134 = .bool true := hd.1 rfl
                have e127 : f 127 = .bool true := hd.2.1 rfl
                clear hd
                simp only [e134, e127] at hK
                have hK := Lib.hid hK
                go_wp2
                exact hK.out _ _ rfl (Below.refl _ _) (fun h => by cases h)
              refine steps2_cons ?_ ?_
              · intro f w1 hb hd Q hK
                have e132 : f 132 = .bool false := hd.1 rfl
                have e135 : f 135 = .bool false := hd.2.1 rfl
                have e127 : f 127 = .bool true := hd.2.2.1 rfl
                clear hd
                simp only [e132, e135, e127] at hK
                have hK := Lib.hid hK
                go_wp2
                exact hK.out _ _ rfl (Below.refl _ _) (fun h => by cases h)
              refine steps2_cons ?_ ?_
              · intro f w1 hb hd Q hK
                have e127 : f 127 = .bool true := hd.1 rfl
                have e136 : f 136 = .bool true := hd.2.1 rfl
                clear hd
                simp only [e127, e136] at hK
                have hK := Lib.hid hK
                go_wp2
                exact hK.out _ _ rfl (Below.refl _ _) (fun h => by cases h)
              refine steps2_cons ?_ ?_
              · intro f w1 hb hd Q hK
                have e137 : f 137 = .bool true := hd.1 rfl
                clear hd
                simp only [e137] at hK
                have hK := Lib.hid hK
                go_wp2
                exact hK.out _ _ rfl (Below.refl _ _) (fun h => by cases h)
              refine steps2_cons ?_ ?_
              · intro f w1 hb hd Q hK
                have e138 : f 138 = .bool true := hd.1 rfl
                clear hd
                simp only [e138] at hK
                have hK := Lib.hid hK
                obtain ⟨c0, c1, c2, c3, c4⟩ := blk5 (hM.below hb)
                go_wp2
                exact hK.out _ _ rfl (Below.refl _ _) (fun h => by cases h)
              refine steps2_cons ?_ ?_
              · intro f w1 hb hd Q hK
                have e138 : f 138 = .bool true := hd.1 rfl
                clear hd
                simp only [e138] at hK
                have hK := Lib.hid hK
                obtain ⟨c0, c1, c2, c3, c4⟩ := blk5 (hM.below hb)
                go_wp2
                exact hK.out _ _ rfl (Below.refl _ _) (fun h => by cases h)
              refine steps2_cons ?_ ?_
              · intro f w1 hb hd Q hK
                have e139 : f 139 = .agg #[.int .u64 Fe.m1.a0, .int .u64 Fe.m1.a1, .int .u64 Fe.m1.a2, .int .u64 Fe.m1.a3, .int .u64 Fe.m1.a4] := hd.1 rfl
                have e140 : f 140 = .agg #[.int .u64 Fe.m1.a0, .int .u64 Fe.m1.a1, .int .u64 Fe.m1.a2, .int .u64 Fe.m1.a3, .int .u64 Fe.m1.a4] := hd.2.1 rfl
                have e138 : f 138 = .bool true := hd.2.2.1 rfl
                clear hd
                simp only [e139, e140, e138] at hK
                have hK := Lib.hid hK
                go_wp2_with fail
                refine ((mul_E Fe.m1 Fe.m1 Fe.m1_w Fe.m1_w) _).mono ?_
                rintro e w2 ⟨rfl, hb2⟩
                go_wp2
                exact hK.out _ _ rfl hb2 (fun h => by cases h)
              refine steps2_cons ?_ ?_
              · intro f w1 hb hd Q hK
                have e138 : f 138 = .bool true := hd.2.1 rfl
                clear hd
                simp only [e138] at hK
                have hK := Lib.hid hK
                go_wp2_with fail
                refine (one_v _).mono ?_
                rintro e w2 ⟨rfl, hb2⟩
                go_wp2
                exact hK.out _ _ rfl hb2 (fun h => by cases h)
              refine steps2_cons ?_ ?_
              · intro f w1 hb hd Q hK
                have e141 : f 141 = .agg #[.int .u64 (Fe.mulE Fe.m1 Fe.m1).a0, .int .u64 (Fe.mulE Fe.m1 Fe.m1).a1, .int .u64 (Fe.mulE Fe.m1 Fe.m1).a2, .int .u64 (Fe.mulE Fe.m1 Fe.m1).a3, .int .u64 (Fe.mulE Fe.m1 Fe.m1).a4] := hd.1 rfl
                have e142 : f 142 = .agg #[.int .u64 1, .int .u64 0, .int .u64 0, .int .u64 0, .int .u64 0] := hd.2.1 rfl
                have e138 : f 138 = .bool true := hd.2.2.2.1 rfl
                clear hd
                simp only [e141, e142, e138] at hK
                have hK := Lib.hid hK
                go_wp2_with fail
                refine (cmm.out _).mono ?_
                rintro e w2 ⟨rfl, hb2⟩
                go_wp2
                exact hK.out _ _ rfl hb2 (fun h => by cases h)
              refine steps2_cons ?_ ?_
              · intro f w1 hb hd Q hK
                have e138 : f 138 = .bool true := hd.1 rfl
                have e143 : f 143 = .bool true := hd.2.1 rfl
                clear hd
                simp only [e138, e143] at hK
                have hK := Lib.hid hK
                go_wp2
                exact hK.out _ _ rfl (Below.refl _ _) (fun h => by cases h)
              refine steps2_cons ?_ ?_
              · intro f w1 hb hd Q hK
                have e144 : f 144 = .bool true := hd.1 rfl
                clear hd
                simp only [e144] at hK
                have hK := Lib.hid hK
                go_wp2
                exact hK.out _ _ rfl (Below.refl _ _) (fun h => by cases h)
              refine steps2_cons ?_ ?_
              · intro f w1 hb hd Q hK
                have e145 : f 145 = .bool true := hd.1 rfl
                clear hd
                simp only [e145] at hK
                have hK := Lib.hid hK
                obtain ⟨c0, c1, c2, c3, c4⟩ := blk5 (hA.below hb)
                go_wp2
                exact hK.out _ _ rfl (Below.refl _ _) (fun h => by cases h)
              refine steps2_cons ?_ ?_
              · intro f w1 hb hd Q hK
                have e145 : f 145 = .bool true := hd.1 rfl
                clear hd
                simp only [e145] at hK
                have hK := Lib.hid hK
                obtain ⟨c0, c1, c2, c3, c4⟩ := blk5 (hB.below hb)
                go_wp2
                exact hK.out _ _ rfl (Below.refl _ _) (fun h => by cases h)
              refine steps2_cons ?_ ?_
              · intro f w1 hb hd Q hK
                have e146 : f 146 = .agg #[.int .u64 a.a0, .int .u64 a.a1, .int .u64 a.a2, .int .u64 a.a3, .int .u64 a.a4] := hd.1 rfl
                have e147 : f 147 = .agg #[.int .u64 b.a0, .int .u64 b.a1, .int .u64 b.a2, .int .u64 b.a3, .int .u64 b.a4] := hd.2.1 rfl
                have e145 : f 145 = .bool true := hd.2.2.1 rfl
                clear hd
                simp only [e146, e147, e145] at hK
                have hK := Lib.hid hK
                go_wp2_with fail
                refine ((mul_E a b hwa hwb) _).mono ?_
                rintro e w2 ⟨rfl, hb2⟩
                go_wp2
                exact hK.out _ _ rfl hb2 (fun h => by cases h)
              refine steps2_cons ?_ ?_
              · intro f w1 hb hd Q hK
                have e148 : f 148 = .agg #[.int .u64 (Fe.mulE a b).a0, .int .u64 (Fe.mulE a b).a1, .int .u64 (Fe.mulE a b).a2, .int .u64 (Fe.mulE a b).a3, .int .u64 (Fe.mulE a b).a4] := hd.1 rfl
                have e145 : f 145 = .bool true := hd.2.2.1 rfl
                clear hd
                simp only [e148, e145] at hK
                have hK := Lib.hid hK
                go_wp2_with fail
                refine (cab.out _).mono ?_
                rintro e w2 ⟨rfl, hb2⟩
                go_wp2
                exact hK.out _ _ rfl hb2 (fun h => by cases h)
              refine steps2_cons ?_ ?_
              · intro f w1 hb hd Q hK
                have e145 : f 145 = .bool true := hd.1 rfl
                clear hd
                simp only [e145] at hK
                have hK := Lib.hid hK
                obtain ⟨c0, c1, c2, c3, c4⟩ := blk5 (hA.below hb)
                go_wp2
                exact hK.out _ _ rfl (Below.refl _ _) (fun h => by cases h)
              refine steps2_cons ?_ ?_
              · intro f w1 hb hd Q hK
                have e150 : f 150 = .agg #[.int .u64 a.a0, .int .u64 a.a1, .int .u64 a.a2, .int .u64 a.a3, .int .u64 a.a4] := hd.1 rfl
                have e145 : f 145 = .bool true := hd.2.2.1 rfl
                clear hd
                simp only [e150, e145] at hK
                have hK := Lib.hid hK
                go_wp2_with fail
                refine (cza.out _).mono ?_
                rintro e w2 ⟨rfl, hb2⟩
                go_wp2
                exact hK.out _ _ rfl hb2 (fun h => by cases h)
              refine steps2_cons ?_ ?_
              · intro f w1 hb hd Q hK
                have e151 : f 151 = .bool true := hd.1 rfl
                have e145 : f 145 = .bool true := hd.2.2.1 rfl
                clear hd
                simp only [e151, e145] at hK
                have hK := Lib.hid hK
                go_wp2
                exact hK.out _ _ rfl (Below.refl _ _) (fun h => by cases h)
              refine steps2_cons ?_ ?_
              · intro f w1 hb hd Q hK
                have e152 : f 152 = .bool true := hd.1 rfl
                clear hd
                simp only [e152] at hK
                have hK := Lib.hid hK
                go_wp2
                exact hK.out _ _ rfl (Below.refl _ _) (fun h => by cases h)
              refine steps2_cons ?_ ?_
              · intro f w1 hb hd Q hK
                have e153 : f 153 = undef := hd.1 rfl
                have e152 : f 152 = .bool true := hd.2.1 rfl
                clear hd
                simp only [e153, e152] at hK
                have hK := Lib.hid hK
                go_wp2
                exact hK.out _ _ rfl (Below.refl _ _) (fun h => by cases h)
              refine steps2_cons ?_ ?_
              · intro f w1 hb hd Q hK
                have e152 : f 152 = .bool true := hd.1 rfl
                have e154 : f 154 = undef := hd.2.1 rfl
                have e145 : f 145 = .bool true := hd.2.2.1 rfl
                clear hd
                simp only [e152, e154, e145] at hK
                have hK := Lib.hid hK
                go_wp2
                exact hK.out _ _ rfl (Below.refl _ _) (fun h => by cases h)
              refine steps2_cons ?_ ?_
              · intro f w1 hb hd Q hK
                have e149 : f 149 = .bool true := hd.1 rfl
                have e155 : f 155 = .bool true := hd.2.1 rfl
                have e145 : f 145 = .bool true := hd.2.2.1 rfl
                clear hd
                simp only [e149, e155, e145] at hK
                have hK := Lib.hid hK
                go_wp2
                exact hK.out _ _ rfl (Below.refl _ _) (fun h => by cases h)
              refine steps2_cons ?_ ?_
              · intro f w1 hb hd Q hK
                have e145 : f 145 = .bool true := hd.1 rfl
                have e156 : f 156 = .bool true := hd.2.1 rfl
                clear hd
                simp only [e145, e156] at hK
                have hK := Lib.hid hK
                go_wp2
                exact hK.out _ _ rfl (Below.refl _ _) (fun h => by cases h)
              refine steps2_cons ?_ ?_
              · intro f w1 hb hd Q hK
                have e157 : f 157 = .bool true := hd.1 rfl
                clear hd
                simp only [e157] at hK
                have hK := Lib.hid hK
                go_wp2
                exact hK.out _ _ rfl (Below.refl _ _) (fun h => by cases h)
              trivial
            · intro f14 y14 hb hf hne
              refine wpList_nil ?_
              have d6 : f14 6 = .bool true := hf 42 _ _ (by decide) rfl rfl
              clear hf hne
              simp only [d6]
              go_wp2
              go_returns
              exact ⟨rfl, hb0.trans (hb.mono hb0.size)⟩
set_option maxHeartbeats 8000000 in
set_option maxRecDepth 100000 in
theorem fieldRing_n (a b c : Fe.E) (hwa : Fe.W a) (hwb : Fe.W b) (hwc : Fe.W c) (hr : rightB 3 (xs3 a b c) = false)
    (w : World) : Calls Try.prog 6 #[.agg #[.int .u64 a.a0, .int .u64 a.a1, .int .u64 a.a2, .int .u64 a.a3, .int .u64 a.a4], .agg #[.int .u64 b.a0, .int .u64 b.a1, .int .u64 b.a2, .int .u64 b.a3, .int .u64 b.a4], .agg #[.int .u64 c.a0, .int .u64 c.a1, .int .u64 c.a2, .int .u64 c.a3, .int .u64 c.a4]] w (PostV (.bool true) w) := by
  replace hr := Lib.hid hr
  go_enter Try.func6, Try.ntmps6
  go_wp2_with fail
  refine calls_at (fun W0 hW => ?_)
  have hA : Blk W0 (w.heap.size) 24 #[.int .u64 a.a0, .int .u64 a.a1, .int .u64 a.a2, .int .u64 a.a3, .int .u64 a.a4] := by rw [hW]; exact ((Blk.new _ _ _).alloc _).alloc _
  have hB : Blk W0 (w.heap.size + 1) 24 #[.int .u64 b.a0, .int .u64 b.a1, .int .u64 b.a2, .int .u64 b.a3, .int .u64 b.a4] := by rw [hW]; exact blk_at (by simp) ((Blk.new _ _ _).alloc _)
  have hC : Blk W0 (w.heap.size + 1 + 1) 24 #[.int .u64 c.a0, .int .u64 c.a1, .int .u64 c.a2, .int .u64 c.a3, .int .u64 c.a4] := by rw [hW]; exact blk_at (by simp) (Blk.new _ _ _)
  have hb0 : Below w.heap.size w W0 := by rw [hW]; go_grown
  clear hW
  refine (awake_c _).mono ?_
  rintro e w1 ⟨rfl, hb1⟩
  replace hA := hA.below hb1
  replace hB := hB.below hb1
  replace hC := hC.below hb1
  replace hb0 := hb0.trans (hb1.mono hb0.size)
  clear hb1
  obtain ⟨p0, p1, p2, p3, p4⟩ := blk5 hA
  obtain ⟨q0, q1, q2, q3, q4⟩ := blk5 hB
  obtain ⟨r0, r1, r2, r3, r4⟩ := blk5 hC
  go_wp2_with fail
  refine calls_at (fun W1 hW => ?_)
  replace hb0 : Below w.heap.size w W1 := by rw [hW]; exact hb0.alloc hb0.size _
  have hS : Blk W1 w1.heap.size 24 #[.int .u64 a.a0, .int .u64 a.a1, .int .u64 a.a2, .int .u64 a.a3, .int .u64 a.a4, .int .u64 b.a0, .int .u64 b.a1, .int .u64 b.a2, .int .u64 b.a3, .int .u64 b.a4, .int .u64 c.a0, .int .u64 c.a1, .int .u64 c.a2, .int .u64 c.a3, .int .u64 c.a4] := by rw [hW]; exact Blk.new _ _ _
  replace hA : Blk W1 (w.heap.size) 24 #[.int .u64 a.a0, .int .u64 a.a1, .int .u64 a.a2, .int .u64 a.a3, .int .u64 a.a4] := by rw [hW]; exact hA.alloc _
  replace hB : Blk W1 (w.heap.size + 1) 24 #[.int .u64 b.a0, .int .u64 b.a1, .int .u64 b.a2, .int .u64 b.a3, .int .u64 b.a4] := by rw [hW]; exact hB.alloc _
  replace hC : Blk W1 (w.heap.size + 1 + 1) 24 #[.int .u64 c.a0, .int .u64 c.a1, .int .u64 c.a2, .int .u64 c.a3, .int .u64 c.a4] := by rw [hW]; exact hC.alloc _
  clear hW p0 p1 p2 p3 p4 q0 q1 q2 q3 q4 r0 r1 r2 r3 r4
  refine (right_c w1.heap.size 3 3 (by decide) (xs3 a b c) (fun i => by unfold xs3; split <;> assumption) _ hS.lt (cells3 a b c hS)).mono ?_
  rintro e w2 ⟨rfl, hb2⟩
  replace hA := hA.below hb2
  replace hB := hB.below hb2
  replace hC := hC.below hb2
  replace hb0 := hb0.trans (hb2.mono hb0.size)
  clear hb2 hS
  rw [hr.out]
  go_wp2
  go_returns
  exact ⟨rfl, hb0⟩
end Go.Proofs.Ytjejibojcjfleaa
