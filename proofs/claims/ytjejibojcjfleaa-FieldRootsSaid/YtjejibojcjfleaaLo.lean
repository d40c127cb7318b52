/- The law FieldRoots, walked. -/
import Derived.Test.YtjejibojcjfleaaLb
import Derived.Test.YtjejibojcjfleaaRi
import Derived.Deep.Cut
namespace Go.Proofs.Ytjejibojcjfleaa
open Go.RowKit
def fo5L (a : Fe.E) (v : Fe.E) (B0 : Nat) : List (Value → World → Prop) := [
  Eq1 (.agg #[.int .u64 a.a0, .int .u64 a.a1, .int .u64 a.a2, .int .u64 a.a3, .int .u64 a.a4]),
  Eq1 (.agg #[.int .u64 (Fe.mulE a a).a0, .int .u64 (Fe.mulE a a).a1, .int .u64 (Fe.mulE a a).a2, .int .u64 (Fe.mulE a a).a3, .int .u64 (Fe.mulE a a).a4]),
  Eq1 (.agg #[.int .u64 v.a0, .int .u64 v.a1, .int .u64 v.a2, .int .u64 v.a3, .int .u64 v.a4]),
  Eq1 (.agg #[.int .u64 (Fe.mulE (Fe.mulE a a) v).a0, .int .u64 (Fe.mulE (Fe.mulE a a) v).a1, .int .u64 (Fe.mulE (Fe.mulE a a) v).a2, .int .u64 (Fe.mulE (Fe.mulE a a) v).a3, .int .u64 (Fe.mulE (Fe.mulE a a) v).a4]),
  NewB B0 24 #[.int .u64 0, .int .u64 0, .int .u64 0, .int .u64 0, .int .u64 0]]
theorem fo5S (a : Fe.E) (v : Fe.E) (B0 : Nat) : ∀ j x' q q', (fo5L a v B0).getD j (fun _ _ => True) x' q → Below q.heap.size q q' → (fo5L a v B0).getD j (fun _ _ => True) x' q' := by
  refine sta_all _ ?_
  simp only [fo5L, List.mem_cons, forall_eq_or_imp, List.not_mem_nil, false_implies, implies_true, and_true]
  exact ⟨sta_eq _, sta_eq _, sta_eq _, sta_eq _, sta_new _ _ _⟩
theorem fo5O (a : Fe.E) (v : Fe.E) (B0 : Nat) : ∀ j x' q, (fun j => j == 4) j = true → (fo5L a v B0).getD j (fun _ _ => True) x' q → ∀ g, x' = .pointer (some ⟨g, 0, none⟩) → g < q.heap.size := by
  intro j x' q hj hv g e
  have hj' : j = 4 := by simpa using hj
  subst hj'
  all_goals exact new_lt hv e
def fo7L (a : Fe.E) (v : Fe.E) (r : Fe.E) : List (Value → World → Prop) := [
  Eq1 (.bool true),
  Eq1 (.bool false),
  Eq1 (.bool false),
  Eq1 (undef),
  Eq1 (undef),
  Eq1 (undef),
  Eq1 (.bool false),
  Eq1 (.bool false),
  Eq1 (.bool true),
  Eq1 (.bool true),
  Eq1 (.agg #[.int .u64 r.a0, .int .u64 r.a1, .int .u64 r.a2, .int .u64 r.a3, .int .u64 r.a4]),
  Eq1 (.bool false),
  Eq1 (.bool false),
  Eq1 (.agg #[.int .u64 r.a0, .int .u64 r.a1, .int .u64 r.a2, .int .u64 r.a3, .int .u64 r.a4]),
  ElB r,
  Eq1 (.bool true),
  Eq1 (.bool false),
  Eq1 (.bool false),
  Eq1 (.bool false),
  Eq1 (.agg #[.int .u64 r.a0, .int .u64 r.a1, .int .u64 r.a2, .int .u64 r.a3, .int .u64 r.a4]),
  Eq1 (.agg #[.int .u64 (Fe.mulE r r).a0, .int .u64 (Fe.mulE r r).a1, .int .u64 (Fe.mulE r r).a2, .int .u64 (Fe.mulE r r).a3, .int .u64 (Fe.mulE r r).a4]),
  Eq1 (.agg #[.int .u64 v.a0, .int .u64 v.a1, .int .u64 v.a2, .int .u64 v.a3, .int .u64 v.a4]),
  Eq1 (.agg #[.int .u64 (Fe.mulE (Fe.mulE r r) v).a0, .int .u64 (Fe.mulE (Fe.mulE r r) v).a1, .int .u64 (Fe.mulE (Fe.mulE r r) v).a2, .int .u64 (Fe.mulE (Fe.mulE r r) v).a3, .int .u64 (Fe.mulE (Fe.mulE r r) v).a4]),
  Eq1 (.agg #[.int .u64 (Fe.mulE (Fe.mulE a a) v).a0, .int .u64 (Fe.mulE (Fe.mulE a a) v).a1, .int .u64 (Fe.mulE (Fe.mulE a a) v).a2, .int .u64 (Fe.mulE (Fe.mulE a a) v).a3, .int .u64 (Fe.mulE (Fe.mulE a a) v).a4]),
  Eq1 (.bool true),
  Eq1 (.bool false),
  Eq1 (.bool false),
  Eq1 (.bool false),
  Eq1 (.bool false)]
theorem fo7S (a : Fe.E) (v : Fe.E) (r : Fe.E) : ∀ j x' q q', (fo7L a v r).getD j (fun _ _ => True) x' q → Below q.heap.size q q' → (fo7L a v r).getD j (fun _ _ => True) x' q' := by
  refine sta_all _ ?_
  simp only [fo7L, List.mem_cons, forall_eq_or_imp, List.not_mem_nil, false_implies, implies_true, and_true]
  exact ⟨sta_eq _, sta_eq _, sta_eq _, sta_eq _, sta_eq _, sta_eq _, sta_eq _, sta_eq _, sta_eq _, sta_eq _, sta_eq _, sta_eq _, sta_eq _, sta_eq _, sta_el _, sta_eq _, sta_eq _, sta_eq _, sta_eq _, sta_eq _, sta_eq _, sta_eq _, sta_eq _, sta_eq _, sta_eq _, sta_eq _, sta_eq _, sta_eq _, sta_eq _⟩
def fo11L (a : Fe.E) (s : Fe.E) (b : Bool) (B0 : Nat) : List (Value → World → Prop) := [
  Eq1 (.agg #[.int .u64 a.a0, .int .u64 a.a1, .int .u64 a.a2, .int .u64 a.a3, .int .u64 a.a4]),
  Eq1 (.agg #[.int .u64 1, .int .u64 0, .int .u64 0, .int .u64 0, .int .u64 0]),
  Eq1 (.tuple #[.agg #[.int .u64 s.a0, .int .u64 s.a1, .int .u64 s.a2, .int .u64 s.a3, .int .u64 s.a4], .bool b]),
  Eq1 (.tuple #[.agg #[.int .u64 s.a0, .int .u64 s.a1, .int .u64 s.a2, .int .u64 s.a3, .int .u64 s.a4], .bool b]),
  Eq1 (.agg #[.int .u64 s.a0, .int .u64 s.a1, .int .u64 s.a2, .int .u64 s.a3, .int .u64 s.a4]),
  Eq1 (.bool b),
  NewB B0 24 #[.int .u64 0, .int .u64 0, .int .u64 0, .int .u64 0, .int .u64 0]]
theorem fo11S (a : Fe.E) (s : Fe.E) (b : Bool) (B0 : Nat) : ∀ j x' q q', (fo11L a s b B0).getD j (fun _ _ => True) x' q → Below q.heap.size q q' → (fo11L a s b B0).getD j (fun _ _ => True) x' q' := by
  refine sta_all _ ?_
  simp only [fo11L, List.mem_cons, forall_eq_or_imp, List.not_mem_nil, false_implies, implies_true, and_true]
  exact ⟨sta_eq _, sta_eq _, sta_eq _, sta_eq _, sta_eq _, sta_eq _, sta_new _ _ _⟩
theorem fo11O (a : Fe.E) (s : Fe.E) (b : Bool) (B0 : Nat) : ∀ j x' q, (fun j => j == 6) j = true → (fo11L a s b B0).getD j (fun _ _ => True) x' q → ∀ g, x' = .pointer (some ⟨g, 0, none⟩) → g < q.heap.size := by
  intro j x' q hj hv g e
  have hj' : j = 6 := by simpa using hj
  subst hj'
  all_goals exact new_lt hv e
def fo13FFL (a : Fe.E) (r : Fe.E) : List (Value → World → Prop) := [
  Eq1 (.bool true),
  Eq1 (.bool true),
  Eq1 (.agg #[.int .u64 r.a0, .int .u64 r.a1, .int .u64 r.a2, .int .u64 r.a3, .int .u64 r.a4]),
  Eq1 (.agg #[.int .u64 a.a0, .int .u64 a.a1, .int .u64 a.a2, .int .u64 a.a3, .int .u64 a.a4]),
  Eq1 (.bool false),
  Eq1 (.bool false),
  Eq1 (.agg #[.int .u64 r.a0, .int .u64 r.a1, .int .u64 r.a2, .int .u64 r.a3, .int .u64 r.a4]),
  Eq1 (.agg #[.int .u64 a.a0, .int .u64 a.a1, .int .u64 a.a2, .int .u64 a.a3, .int .u64 a.a4]),
  Eq1 (.agg #[.int .u64 (Fe.subE ⟨0, 0, 0, 0, 0⟩ a).a0, .int .u64 (Fe.subE ⟨0, 0, 0, 0, 0⟩ a).a1, .int .u64 (Fe.subE ⟨0, 0, 0, 0, 0⟩ a).a2, .int .u64 (Fe.subE ⟨0, 0, 0, 0, 0⟩ a).a3, .int .u64 (Fe.subE ⟨0, 0, 0, 0, 0⟩ a).a4]),
  Eq1 (.bool true),
  Eq1 (.bool true),
  Eq1 (.bool true),
  Eq1 (.bool true),
  Eq1 (.bool false),
  Eq1 (.bool (!false)),
  Eq1 (.bool true),
  Eq1 (.bool true),
  Eq1 (.bool true),
  Eq1 (.bool false),
  Eq1 (.bool true),
  Eq1 (.bool true),
  Eq1 (undef),
  Eq1 (undef),
  Eq1 (undef),
  Eq1 (undef),
  Eq1 (undef),
  Eq1 (undef),
  Eq1 (undef),
  Eq1 (undef),
  Eq1 (undef),
  Eq1 (.bool true),
  Eq1 (.bool true),
  Eq1 (.bool true)]
theorem fo13FFS (a : Fe.E) (r : Fe.E) : ∀ j x' q q', (fo13FFL a r).getD j (fun _ _ => True) x' q → Below q.heap.size q q' → (fo13FFL a r).getD j (fun _ _ => True) x' q' := by
  refine sta_all _ ?_
  simp only [fo13FFL, List.mem_cons, forall_eq_or_imp, List.not_mem_nil, false_implies, implies_true, and_true]
  exact ⟨sta_eq _, sta_eq _, sta_eq _, sta_eq _, sta_eq _, sta_eq _, sta_eq _, sta_eq _, sta_eq _, sta_eq _, sta_eq _, sta_eq _, sta_eq _, sta_eq _, sta_eq _, sta_eq _, sta_eq _, sta_eq _, sta_eq _, sta_eq _, sta_eq _, sta_eq _, sta_eq _, sta_eq _, sta_eq _, sta_eq _, sta_eq _, sta_eq _, sta_eq _, sta_eq _, sta_eq _, sta_eq _, sta_eq _⟩
def fo13FTL (a : Fe.E) (r : Fe.E) (s : Fe.E) : List (Value → World → Prop) := [
  Eq1 (.bool true),
  Eq1 (.bool true),
  Eq1 (.agg #[.int .u64 r.a0, .int .u64 r.a1, .int .u64 r.a2, .int .u64 r.a3, .int .u64 r.a4]),
  Eq1 (.agg #[.int .u64 a.a0, .int .u64 a.a1, .int .u64 a.a2, .int .u64 a.a3, .int .u64 a.a4]),
  Eq1 (.bool false),
  Eq1 (.bool false),
  Eq1 (.agg #[.int .u64 r.a0, .int .u64 r.a1, .int .u64 r.a2, .int .u64 r.a3, .int .u64 r.a4]),
  Eq1 (.agg #[.int .u64 a.a0, .int .u64 a.a1, .int .u64 a.a2, .int .u64 a.a3, .int .u64 a.a4]),
  Eq1 (.agg #[.int .u64 (Fe.subE ⟨0, 0, 0, 0, 0⟩ a).a0, .int .u64 (Fe.subE ⟨0, 0, 0, 0, 0⟩ a).a1, .int .u64 (Fe.subE ⟨0, 0, 0, 0, 0⟩ a).a2, .int .u64 (Fe.subE ⟨0, 0, 0, 0, 0⟩ a).a3, .int .u64 (Fe.subE ⟨0, 0, 0, 0, 0⟩ a).a4]),
  Eq1 (.bool true),
  Eq1 (.bool true),
  Eq1 (.bool true),
  Eq1 (.bool true),
  Eq1 (.bool true),
  Eq1 (.bool (!true)),
  Eq1 (.bool true),
  Eq1 (.bool true),
  Eq1 (.bool true),
  Eq1 (.bool true),
  Eq1 (.bool false),
  Eq1 (.bool false),
  Eq1 (.agg #[.int .u64 s.a0, .int .u64 s.a1, .int .u64 s.a2, .int .u64 s.a3, .int .u64 s.a4]),
  Eq1 (.agg #[.int .u64 (Fe.mulE s s).a0, .int .u64 (Fe.mulE s s).a1, .int .u64 (Fe.mulE s s).a2, .int .u64 (Fe.mulE s s).a3, .int .u64 (Fe.mulE s s).a4]),
  Eq1 (.agg #[.int .u64 a.a0, .int .u64 a.a1, .int .u64 a.a2, .int .u64 a.a3, .int .u64 a.a4]),
  Eq1 (.bool true),
  Eq1 (.bool true),
  Eq1 (.agg #[.int .u64 s.a0, .int .u64 s.a1, .int .u64 s.a2, .int .u64 s.a3, .int .u64 s.a4]),
  Eq1 (.bool false),
  Eq1 (.bool true),
  Eq1 (.bool true),
  Eq1 (.bool true),
  Eq1 (.bool true),
  Eq1 (.bool true)]
theorem fo13FTS (a : Fe.E) (r : Fe.E) (s : Fe.E) : ∀ j x' q q', (fo13FTL a r s).getD j (fun _ _ => True) x' q → Below q.heap.size q q' → (fo13FTL a r s).getD j (fun _ _ => True) x' q' := by
  refine sta_all _ ?_
  simp only [fo13FTL, List.mem_cons, forall_eq_or_imp, List.not_mem_nil, false_implies, implies_true, and_true]
  exact ⟨sta_eq _, sta_eq _, sta_eq _, sta_eq _, sta_eq _, sta_eq _, sta_eq _, sta_eq _, sta_eq _, sta_eq _, sta_eq _, sta_eq _, sta_eq _, sta_eq _, sta_eq _, sta_eq _, sta_eq _, sta_eq _, sta_eq _, sta_eq _, sta_eq _, sta_eq _, sta_eq _, sta_eq _, sta_eq _, sta_eq _, sta_eq _, sta_eq _, sta_eq _, sta_eq _, sta_eq _, sta_eq _, sta_eq _⟩
def fo13TFL (a : Fe.E) (r : Fe.E) : List (Value → World → Prop) := [
  Eq1 (.bool true),
  Eq1 (.bool true),
  Eq1 (.agg #[.int .u64 r.a0, .int .u64 r.a1, .int .u64 r.a2, .int .u64 r.a3, .int .u64 r.a4]),
  Eq1 (.agg #[.int .u64 a.a0, .int .u64 a.a1, .int .u64 a.a2, .int .u64 a.a3, .int .u64 a.a4]),
  Eq1 (.bool true),
  Eq1 (.bool true),
  Eq1 (undef),
  Eq1 (undef),
  Eq1 (undef),
  Eq1 (undef),
  Eq1 (.bool true),
  Eq1 (.bool true),
  Eq1 (.bool true),
  Eq1 (.bool false),
  Eq1 (.bool (!false)),
  Eq1 (.bool true),
  Eq1 (.bool true),
  Eq1 (.bool true),
  Eq1 (.bool false),
  Eq1 (.bool true),
  Eq1 (.bool true),
  Eq1 (undef),
  Eq1 (undef),
  Eq1 (undef),
  Eq1 (undef),
  Eq1 (undef),
  Eq1 (undef),
  Eq1 (undef),
  Eq1 (undef),
  Eq1 (undef),
  Eq1 (.bool true),
  Eq1 (.bool true),
  Eq1 (.bool true)]
theorem fo13TFS (a : Fe.E) (r : Fe.E) : ∀ j x' q q', (fo13TFL a r).getD j (fun _ _ => True) x' q → Below q.heap.size q q' → (fo13TFL a r).getD j (fun _ _ => True) x' q' := by
  refine sta_all _ ?_
  simp only [fo13TFL, List.mem_cons, forall_eq_or_imp, List.not_mem_nil, false_implies, implies_true, and_true]
  exact ⟨sta_eq _, sta_eq _, sta_eq _, sta_eq _, sta_eq _, sta_eq _, sta_eq _, sta_eq _, sta_eq _, sta_eq _, sta_eq _, sta_eq _, sta_eq _, sta_eq _, sta_eq _, sta_eq _, sta_eq _, sta_eq _, sta_eq _, sta_eq _, sta_eq _, sta_eq _, sta_eq _, sta_eq _, sta_eq _, sta_eq _, sta_eq _, sta_eq _, sta_eq _, sta_eq _, sta_eq _, sta_eq _, sta_eq _⟩
def fo13TTL (a : Fe.E) (r : Fe.E) (s : Fe.E) : List (Value → World → Prop) := [
  Eq1 (.bool true),
  Eq1 (.bool true),
  Eq1 (.agg #[.int .u64 r.a0, .int .u64 r.a1, .int .u64 r.a2, .int .u64 r.a3, .int .u64 r.a4]),
  Eq1 (.agg #[.int .u64 a.a0, .int .u64 a.a1, .int .u64 a.a2, .int .u64 a.a3, .int .u64 a.a4]),
  Eq1 (.bool true),
  Eq1 (.bool true),
  Eq1 (undef),
  Eq1 (undef),
  Eq1 (undef),
  Eq1 (undef),
  Eq1 (.bool true),
  Eq1 (.bool true),
  Eq1 (.bool true),
  Eq1 (.bool true),
  Eq1 (.bool (!true)),
  Eq1 (.bool true),
  Eq1 (.bool true),
  Eq1 (.bool true),
  Eq1 (.bool true),
  Eq1 (.bool false),
  Eq1 (.bool false),
  Eq1 (.agg #[.int .u64 s.a0, .int .u64 s.a1, .int .u64 s.a2, .int .u64 s.a3, .int .u64 s.a4]),
  Eq1 (.agg #[.int .u64 (Fe.mulE s s).a0, .int .u64 (Fe.mulE s s).a1, .int .u64 (Fe.mulE s s).a2, .int .u64 (Fe.mulE s s).a3, .int .u64 (Fe.mulE s s).a4]),
  Eq1 (.agg #[.int .u64 a.a0, .int .u64 a.a1, .int .u64 a.a2, .int .u64 a.a3, .int .u64 a.a4]),
  Eq1 (.bool true),
  Eq1 (.bool true),
  Eq1 (.agg #[.int .u64 s.a0, .int .u64 s.a1, .int .u64 s.a2, .int .u64 s.a3, .int .u64 s.a4]),
  Eq1 (.bool false),
  Eq1 (.bool true),
  Eq1 (.bool true),
  Eq1 (.bool true),
  Eq1 (.bool true),
  Eq1 (.bool true)]
theorem fo13TTS (a : Fe.E) (r : Fe.E) (s : Fe.E) : ∀ j x' q q', (fo13TTL a r s).getD j (fun _ _ => True) x' q → Below q.heap.size q q' → (fo13TTL a r s).getD j (fun _ _ => True) x' q' := by
  refine sta_all _ ?_
  simp only [fo13TTL, List.mem_cons, forall_eq_or_imp, List.not_mem_nil, false_implies, implies_true, and_true]
  exact ⟨sta_eq _, sta_eq _, sta_eq _, sta_eq _, sta_eq _, sta_eq _, sta_eq _, sta_eq _, sta_eq _, sta_eq _, sta_eq _, sta_eq _, sta_eq _, sta_eq _, sta_eq _, sta_eq _, sta_eq _, sta_eq _, sta_eq _, sta_eq _, sta_eq _, sta_eq _, sta_eq _, sta_eq _, sta_eq _, sta_eq _, sta_eq _, sta_eq _, sta_eq _, sta_eq _, sta_eq _, sta_eq _, sta_eq _⟩
set_option maxHeartbeats 8000000 in
set_option maxRecDepth 100000 in
theorem fieldRoots_z (a v r : Fe.E) (hwa : Fe.W a) (hwv : Fe.W v) (hwr : Fe.W r) (hr : rightB 2 (xs2 a v) = true) (zv za : Bool) (hz : (zv || za) = true)
    (croot : ∀ w, Calls Try.prog 10 #[.agg #[.int .u64 (Fe.mulE (Fe.mulE a a) v).a0, .int .u64 (Fe.mulE (Fe.mulE a a) v).a1, .int .u64 (Fe.mulE (Fe.mulE a a) v).a2, .int .u64 (Fe.mulE (Fe.mulE a a) v).a3, .int .u64 (Fe.mulE (Fe.mulE a a) v).a4], .agg #[.int .u64 v.a0, .int .u64 v.a1, .int .u64 v.a2, .int .u64 v.a3, .int .u64 v.a4]] w (PostR r true w))
    (codd : ∀ w, Calls Try.prog 24 #[.agg #[.int .u64 r.a0, .int .u64 r.a1, .int .u64 r.a2, .int .u64 r.a3, .int .u64 r.a4]] w (PostV (.bool false) w))
    (cr1 : rightB 1 (fun _ => r) = true)
    (cback : ∀ w, Calls Try.prog 21 #[.agg #[.int .u64 (Fe.mulE (Fe.mulE r r) v).a0, .int .u64 (Fe.mulE (Fe.mulE r r) v).a1, .int .u64 (Fe.mulE (Fe.mulE r r) v).a2, .int .u64 (Fe.mulE (Fe.mulE r r) v).a3, .int .u64 (Fe.mulE (Fe.mulE r r) v).a4], .agg #[.int .u64 (Fe.mulE (Fe.mulE a a) v).a0, .int .u64 (Fe.mulE (Fe.mulE a a) v).a1, .int .u64 (Fe.mulE (Fe.mulE a a) v).a2, .int .u64 (Fe.mulE (Fe.mulE a a) v).a3, .int .u64 (Fe.mulE (Fe.mulE a a) v).a4]] w (PostV (.bool true) w))
    (czv : ∀ w, Calls Try.prog 23 #[.agg #[.int .u64 v.a0, .int .u64 v.a1, .int .u64 v.a2, .int .u64 v.a3, .int .u64 v.a4]] w (PostV (.bool zv) w))
    (cza : ∀ w, Calls Try.prog 23 #[.agg #[.int .u64 a.a0, .int .u64 a.a1, .int .u64 a.a2, .int .u64 a.a3, .int .u64 a.a4]] w (PostV (.bool za) w))
    (w : World) : Calls Try.prog 7 #[.agg #[.int .u64 a.a0, .int .u64 a.a1, .int .u64 a.a2, .int .u64 a.a3, .int .u64 a.a4], .agg #[.int .u64 v.a0, .int .u64 v.a1, .int .u64 v.a2, .int .u64 v.a3, .int .u64 v.a4]] w (PostV (.bool true) w) := by
  have hz' : zv = false → za = true := fun h => by subst h; exact hz
  clear hz
  replace croot := Lib.hid croot
  replace codd := Lib.hid codd
  replace cr1 := Lib.hid cr1
  replace cback := Lib.hid cback
  replace czv := Lib.hid czv
  replace cza := Lib.hid cza
  replace hr := Lib.hid hr
  go_enter Try.func7, Try.ntmps7
  go_wp2_with fail
  refine calls_at (fun W0 hW => ?_)
  have hA : Blk W0 (w.heap.size) 24 #[.int .u64 a.a0, .int .u64 a.a1, .int .u64 a.a2, .int .u64 a.a3, .int .u64 a.a4] := by rw [hW]; exact (Blk.new _ _ _).alloc _
  have hV : Blk W0 (w.heap.size + 1) 24 #[.int .u64 v.a0, .int .u64 v.a1, .int .u64 v.a2, .int .u64 v.a3, .int .u64 v.a4] := by rw [hW]; exact blk_at (by simp) (Blk.new _ _ _)
  have hb0 : Below w.heap.size w W0 := by rw [hW]; go_grown
  clear hW
  refine (awake_c _).mono ?_
  rintro e w1 ⟨rfl, hb1⟩
  replace hA := hA.below hb1
  replace hV := hV.below hb1
  replace hb0 := hb0.trans (hb1.mono hb0.size)
  clear hb1
  obtain ⟨p0, p1, p2, p3, p4⟩ := blk5 hA
  obtain ⟨q0, q1, q2, q3, q4⟩ := blk5 hV
  go_wp2_with fail
  refine calls_at (fun W1 hW => ?_)
  replace hb0 : Below w.heap.size w W1 := by rw [hW]; exact hb0.alloc hb0.size _
  have hS : Blk W1 w1.heap.size 24 (dv2 a v) := by rw [hW]; exact Blk.new _ _ _
  replace hA : Blk W1 (w.heap.size) 24 #[.int .u64 a.a0, .int .u64 a.a1, .int .u64 a.a2, .int .u64 a.a3, .int .u64 a.a4] := by rw [hW]; exact hA.alloc _
  replace hV : Blk W1 (w.heap.size + 1) 24 #[.int .u64 v.a0, .int .u64 v.a1, .int .u64 v.a2, .int .u64 v.a3, .int .u64 v.a4] := by rw [hW]; exact hV.alloc _
  clear hW p0 p1 p2 p3 p4 q0 q1 q2 q3 q4
  refine (right_c w1.heap.size 2 2 (by decide) (xs2 a v) (fun i => by unfold xs2; split <;> assumption) _ hS.lt (cells2 a v hS)).mono ?_
  rintro e w2 ⟨rfl, hb2⟩
  clear hS
  replace hA := hA.below hb2
  replace hV := hV.below hb2
  replace hb0 := hb0.trans (hb2.mono hb0.size)
  clear hb2
  rw [hr.out]
  generalize w1.heap.size = gs
  have hAlt := hA.lt
  have hVlt := hV.lt
  go_wp2
  refine wp_region_grow2 5 (fun k => Nat.beq k 5 || (Nat.ble 19 k && Nat.ble k 22)) _ [] (fun j x' q => (fo5L a v w2.heap.size).getD j (fun _ _ => True) x' q) (fun j => j == 4) (fun f => #[.agg #[.int .u64 a.a0, .int .u64 a.a1, .int .u64 a.a2, .int .u64 a.a3, .int .u64 a.a4], .agg #[.int .u64 v.a0, .int .u64 v.a1, .int .u64 v.a2, .int .u64 v.a3, .int .u64 v.a4], .pointer (some ⟨w.heap.size, 0, none⟩), .pointer (some ⟨w.heap.size + 1, 0, none⟩), .bool false, f 5, undef, undef, undef, undef, undef, undef, .bool true, .bool false, .agg #[.int .u64 a.a0, .int .u64 a.a1, .int .u64 a.a2, .int .u64 a.a3, .int .u64 a.a4], .agg #[.int .u64 v.a0, .int .u64 v.a1, .int .u64 v.a2, .int .u64 v.a3, .int .u64 v.a4], .slice (some ⟨gs, 0, none⟩) 2 2, .bool true, .bool false, f 19, f 20, f 21, f 22, undef, undef, undef, undef, undef, undef, undef, undef, undef, undef, undef, undef, undef, undef, undef, undef, undef, undef, undef, undef, undef, undef, undef, undef, undef, undef, undef, undef, undef, undef, undef, undef, undef, undef, undef, undef, undef, undef, undef, undef, undef, undef, undef, undef, undef, undef, undef, undef, undef, undef, undef, undef, undef, undef, undef, undef, undef, undef, undef, undef, undef, undef, undef, undef, undef, undef, undef, undef, undef, undef, undef, undef, undef, undef, undef, undef, undef, undef, undef, undef, undef, undef, undef, undef, undef, undef, undef, undef]) (fun f => rfl) (by kernel_rfl) (by kernel_rfl) (by kernel_rfl) (by kernel_rfl) (by kernel_rfl) (fo5S _ _ _) (fo5O _ _ _) ?_ ?_
  · refine steps2_cons ?_ ?_
    · intro f w1 hb hd Q hK
      clear hd
      have hK := Lib.hid hK
      obtain ⟨c0, c1, c2, c3, c4⟩ := blk5 (hA.below hb)
      go_wp2
      exact hK.out _ _ rfl (Below.refl _ _) (fun h => by cases h)
    refine steps2_cons ?_ ?_
    · intro f w1 hb hd Q hK
      have e19 : f 19 = .agg #[.int .u64 a.a0, .int .u64 a.a1, .int .u64 a.a2, .int .u64 a.a3, .int .u64 a.a4] := hd.1 rfl
      clear hd
      simp only [e19] at hK
      have hK := Lib.hid hK
      go_wp2_with fail
      refine ((square_E a hwa) _).mono ?_
      rintro e w2 ⟨rfl, hb2⟩
      go_wp2
      exact hK.out _ _ rfl hb2 (fun h => by cases h)
    refine steps2_cons ?_ ?_
    · intro f w1 hb hd Q hK
      clear hd
      have hK := Lib.hid hK
      obtain ⟨c0, c1, c2, c3, c4⟩ := blk5 (hV.below hb)
      go_wp2
      exact hK.out _ _ rfl (Below.refl _ _) (fun h => by cases h)
    refine steps2_cons ?_ ?_
    · intro f w1 hb hd Q hK
      have e20 : f 20 = .agg #[.int .u64 (Fe.mulE a a).a0, .int .u64 (Fe.mulE a a).a1, .int .u64 (Fe.mulE a a).a2, .int .u64 (Fe.mulE a a).a3, .int .u64 (Fe.mulE a a).a4] := hd.1 rfl
      have e21 : f 21 = .agg #[.int .u64 v.a0, .int .u64 v.a1, .int .u64 v.a2, .int .u64 v.a3, .int .u64 v.a4] := hd.2.1 rfl
      clear hd
      simp only [e20, e21] at hK
      have hK := Lib.hid hK
      go_wp2_with fail
      refine ((mul_E (Fe.mulE a a) v (Fe.mulE_w _ _) hwv) _).mono ?_
      rintro e w2 ⟨rfl, hb2⟩
      go_wp2
      exact hK.out _ _ rfl hb2 (fun h => by cases h)
    refine steps2_cons ?_ ?_
    · intro f w1 hb hd Q hK
      clear hd
      have hK := Lib.hid hK
      have hsz := hb.size
      go_wp2
      exact hK.out _ _ ⟨_, rfl, hsz, Blk.new _ _ _⟩ ((Below.refl _ _).alloc (Nat.le_refl _) _) (fun _ => ⟨_, rfl, Nat.le_refl _⟩)
    trivial
  · intro f5 y5 hb hf hne
    obtain ⟨g5, d5, lo5, bk5⟩ : NewB w2.heap.size 24 #[.int .u64 0, .int .u64 0, .int .u64 0, .int .u64 0, .int .u64 0] (f5 5) y5 := hf 4 _ _ (by decide) rfl rfl
    have d22 : f5 22 = .agg #[.int .u64 (Fe.mulE (Fe.mulE a a) v).a0, .int .u64 (Fe.mulE (Fe.mulE a a) v).a1, .int .u64 (Fe.mulE (Fe.mulE a a) v).a2, .int .u64 (Fe.mulE (Fe.mulE a a) v).a3, .int .u64 (Fe.mulE (Fe.mulE a a) v).a4] := hf 3 _ _ (by decide) rfl rfl
    clear hf hne
    simp only [d5, d22]
    refine wpList_store_blk rfl _ _ _ rfl g5 24 #[.int .u64 0, .int .u64 0, .int .u64 0, .int .u64 0, .int .u64 0] #[.int .u64 (Fe.mulE (Fe.mulE a a) v).a0, .int .u64 (Fe.mulE (Fe.mulE a a) v).a1, .int .u64 (Fe.mulE (Fe.mulE a a) v).a2, .int .u64 (Fe.mulE (Fe.mulE a a) v).a3, .int .u64 (Fe.mulE (Fe.mulE a a) v).a4] rfl rfl bk5 rfl (by kernel_rfl) (by kernel_rfl) ?_
    intro w3 hnew hgr hsz
    replace hA := (hA.below hb).grown hgr (fun hh => by injection hh with hh; have := hA.lt; omega)
    replace hV := (hV.below hb).grown hgr (fun hh => by injection hh with hh; have := hV.lt; omega)
    replace hb0 := (hb0.trans (hb.mono hb0.size)).grown hgr (Nat.le_trans hb0.size hb.size) (fun k hk => by injection hk with hk; have := hb0.size; omega)
    have hU := hnew
    have hUlt := hU.lt
    clear hnew hgr hsz hb bk5 d5 d22
    obtain ⟨p0, p1, p2, p3, p4⟩ := blk5 hU
    obtain ⟨q0, q1, q2, q3, q4⟩ := blk5 hV
    go_wp2_with fail
    refine (croot.out _).mono ?_
    rintro e wA ⟨rfl, hbA⟩
    clear p0 p1 p2 p3 p4 q0 q1 q2 q3 q4
    replace hA := hA.below hbA
    replace hV := hV.below hbA
    replace hU := hU.below hbA
    replace hb0 := hb0.trans (hbA.mono hb0.size)
    clear hbA
    go_wp2
    refine at_world (fun W3 hW => ?_)
    replace hb0 : Below w.heap.size w W3 := by rw [hW]; exact hb0.alloc hb0.size _
    have hR : Blk W3 wA.heap.size 24 #[.int .u64 r.a0, .int .u64 r.a1, .int .u64 r.a2, .int .u64 r.a3, .int .u64 r.a4] := by rw [hW]; exact Blk.new _ _ _
    replace hA : Blk W3 (w.heap.size) 24 #[.int .u64 a.a0, .int .u64 a.a1, .int .u64 a.a2, .int .u64 a.a3, .int .u64 a.a4] := by rw [hW]; exact hA.alloc _
    replace hV : Blk W3 (w.heap.size + 1) 24 #[.int .u64 v.a0, .int .u64 v.a1, .int .u64 v.a2, .int .u64 v.a3, .int .u64 v.a4] := by rw [hW]; exact hV.alloc _
    replace hU : Blk W3 (g5) 24 #[.int .u64 (Fe.mulE (Fe.mulE a a) v).a0, .int .u64 (Fe.mulE (Fe.mulE a a) v).a1, .int .u64 (Fe.mulE (Fe.mulE a a) v).a2, .int .u64 (Fe.mulE (Fe.mulE a a) v).a3, .int .u64 (Fe.mulE (Fe.mulE a a) v).a4] := by rw [hW]; exact hU.alloc _
    clear hW
    generalize wA.heap.size = gr at *
    refine wp_region_grow2 29 (fun k => (Nat.ble 29 k && Nat.ble k 57)) _ [] (fun j x' q => (fo7L a v r).getD j (fun _ _ => True) x' q) (fun _ => false) (fun f => #[.agg #[.int .u64 a.a0, .int .u64 a.a1, .int .u64 a.a2, .int .u64 a.a3, .int .u64 a.a4], .agg #[.int .u64 v.a0, .int .u64 v.a1, .int .u64 v.a2, .int .u64 v.a3, .int .u64 v.a4], .pointer (some ⟨w.heap.size, 0, none⟩), .pointer (some ⟨w.heap.size + 1, 0, none⟩), .bool false, .pointer (some ⟨g5, 0, none⟩), .pointer (some ⟨gr, 0, none⟩), .bool true, undef, undef, undef, undef, .bool true, .bool false, .agg #[.int .u64 a.a0, .int .u64 a.a1, .int .u64 a.a2, .int .u64 a.a3, .int .u64 a.a4], .agg #[.int .u64 v.a0, .int .u64 v.a1, .int .u64 v.a2, .int .u64 v.a3, .int .u64 v.a4], .slice (some ⟨gs, 0, none⟩) 2 2, .bool true, .bool false, f5 19, f5 20, f5 21, .agg #[.int .u64 (Fe.mulE (Fe.mulE a a) v).a0, .int .u64 (Fe.mulE (Fe.mulE a a) v).a1, .int .u64 (Fe.mulE (Fe.mulE a a) v).a2, .int .u64 (Fe.mulE (Fe.mulE a a) v).a3, .int .u64 (Fe.mulE (Fe.mulE a a) v).a4], .tuple #[.agg #[.int .u64 r.a0, .int .u64 r.a1, .int .u64 r.a2, .int .u64 r.a3, .int .u64 r.a4], .bool true], .agg #[.int .u64 (Fe.mulE (Fe.mulE a a) v).a0, .int .u64 (Fe.mulE (Fe.mulE a a) v).a1, .int .u64 (Fe.mulE (Fe.mulE a a) v).a2, .int .u64 (Fe.mulE (Fe.mulE a a) v).a3, .int .u64 (Fe.mulE (Fe.mulE a a) v).a4], .agg #[.int .u64 v.a0, .int .u64 v.a1, .int .u64 v.a2, .int .u64 v.a3, .int .u64 v.a4], .tuple #[.agg #[.int .u64 r.a0, .int .u64 r.a1, .int .u64 r.a2, .int .u64 r.a3, .int .u64 r.a4], .bool true], .agg #[.int .u64 r.a0, .int .u64 r.a1, .int .u64 r.a2, .int .u64 r.a3, .int .u64 r.a4], .bool true, f 29, f 30, f 31, f 32, f 33, f 34, f 35, f 36, f 37, f 38, f 39, f 40, f 41, f 42, f 43, f 44, f 45, f 46, f 47, f 48, f 49, f 50, f 51, f 52, f 53, f 54, f 55, f 56, f 57, undef, undef, undef, undef, undef, undef, undef, undef, undef, undef, undef, undef, undef, undef, undef, undef, undef, undef, undef, undef, undef, undef, undef, undef, undef, undef, undef, undef, undef, undef, undef, undef, undef, undef, undef, undef, undef, undef, undef, undef, undef, undef, undef, undef, undef, undef, undef, undef, undef, undef, undef, undef, undef]) (fun f => rfl) (by kernel_rfl) (by kernel_rfl) (by kernel_rfl) (by kernel_rfl) (by kernel_rfl) (fo7S _ _ _) (fun _ _ _ h => by cases h) ?_ ?_
    · refine steps2_cons ?_ ?_
      · intro f w1 hb hd Q hK
        clear hd
        have hK := Lib.hid hK
        go_wp2
        exact hK.out _ _ rfl (Below.refl _ _) (fun h => by cases h)
      refine steps2_cons ?_ ?_
      · intro f w1 hb hd Q hK
        have e29 : f 29 = .bool true := hd.1 rfl
        clear hd
        simp only [e29] at hK
        have hK := Lib.hid hK
        go_wp2
        exact hK.out _ _ rfl (Below.refl _ _) (fun h => by cases h)
      refine steps2_cons ?_ ?_
      · intro f w1 hb hd Q hK
        have e30 : f 30 = .bool false := hd.1 rfl
        clear hd
        simp only [e30] at hK
        have hK := Lib.hid hK
        go_wp2
        exact hK.out _ _ rfl (Below.refl _ _) (fun h => by cases h)
      refine steps2_cons ?_ ?_
      · intro f w1 hb hd Q hK
        have e31 : f 31 = .bool false := hd.1 rfl
        clear hd
        simp only [e31] at hK
        have hK := Lib.hid hK
        go_wp2
        exact hK.out _ _ rfl (Below.refl _ _) (fun h => by cases h)
      refine steps2_cons ?_ ?_
      · intro f w1 hb hd Q hK
        have e32 : f 32 = undef := hd.1 rfl
        have e31 : f 31 = .bool false := hd.2.1 rfl
        clear hd
        simp only [e32, e31] at hK
        have hK := Lib.hid hK
        go_wp2
        exact hK.out _ _ rfl (Below.refl _ _) (fun h => by cases h)
      refine steps2_cons ?_ ?_
      · intro f w1 hb hd Q hK
        have e33 : f 33 = undef := hd.1 rfl
        have e31 : f 31 = .bool false := hd.2.1 rfl
        clear hd
        simp only [e33, e31] at hK
        have hK := Lib.hid hK
        go_wp2
        exact hK.out _ _ rfl (Below.refl _ _) (fun h => by cases h)
      refine steps2_cons ?_ ?_
      · intro f w1 hb hd Q hK
        have e31 : f 31 = .bool false := hd.1 rfl
        have e34 : f 34 = undef := hd.2.1 rfl
        clear hd
        simp only [e31, e34] at hK
        have hK := Lib.hid hK
        go_wp2
        exact hK.out _ _ rfl (Below.refl _ _) (fun h => by cases h)
      refine steps2_cons ?_ ?_
      · intro f w1 hb hd Q hK
        have e35 : f 35 = .bool false := hd.1 rfl
        clear hd
        simp only [e35] at hK
        have hK := Lib.hid hK
        go_wp2
        exact hK.out _ _ rfl (Below.refl _ _) (fun h => by cases h)
      refine steps2_cons ?_ ?_
      · intro f w1 hb hd Q hK
        have e36 : f 36 = .bool false := hd.1 rfl
        clear hd
        simp only [e36] at hK
        have hK := Lib.hid hK
        go_wp2
        exact hK.out _ _ rfl (Below.refl _ _) (fun h => by cases h)
      refine steps2_cons ?_ ?_
      · intro f w1 hb hd Q hK
        have e37 : f 37 = .bool true := hd.1 rfl
        have e36 : f 36 = .bool false := hd.2.1 rfl
        clear hd
        simp only [e37, e36] at hK
        have hK := Lib.hid hK
        go_wp2
        exact hK.out _ _ rfl (Below.refl _ _) (fun h => by cases h)
      refine steps2_cons ?_ ?_
      · intro f w1 hb hd Q hK
        have e38 : f 38 = .bool true := hd.1 rfl
        clear hd
        simp only [e38] at hK
        have hK := Lib.hid hK
        obtain ⟨c0, c1, c2, c3, c4⟩ := blk5 (hR.below hb)
        go_wp2
        exact hK.out _ _ rfl (Below.refl _ _) (fun h => by cases h)
      refine steps2_cons ?_ ?_
      · intro f w1 hb hd Q hK
        have e39 : f 39 = .agg #[.int .u64 r.a0, .int .u64 r.a1, .int .u64 r.a2, .int .u64 r.a3, .int .u64 r.a4] := hd.1 rfl
        have e38 : f 38 = .bool true := hd.2.1 rfl
        clear hd
        simp only [e39, e38] at hK
        have hK := Lib.hid hK
        go_wp2_with fail
        refine (codd.out _).mono ?_
        rintro e w2 ⟨rfl, hb2⟩
        go_wp2
        exact hK.out _ _ rfl hb2 (fun h => by cases h)
      refine steps2_cons ?_ ?_
      · intro f w1 hb hd Q hK
        have e40 : f 40 = .bool false := hd.1 rfl
        have e38 : f 38 = .bool true := hd.2.2.1 rfl
        clear hd
        simp only [e40, e38] at hK
        have hK := Lib.hid hK
        go_wp2
        exact hK.out _ _ rfl (Below.refl _ _) (fun h => by cases h)
      refine steps2_cons ?_ ?_
      · intro f w1 hb hd Q hK
        have e41 : f 41 = .bool false := hd.1 rfl
        clear hd
        simp only [e41] at hK
        have hK := Lib.hid hK
        obtain ⟨c0, c1, c2, c3, c4⟩ := blk5 (hR.below hb)
        go_wp2
        exact hK.out _ _ rfl (Below.refl _ _) (fun h => by cases h)
      refine steps2_cons ?_ ?_
      · intro f w1 hb hd Q hK
        have e42 : f 42 = .agg #[.int .u64 r.a0, .int .u64 r.a1, .int .u64 r.a2, .int .u64 r.a3, .int .u64 r.a4] := hd.1 rfl
        have e41 : f 41 = .bool false := hd.2.1 rfl
        clear hd
        simp only [e42, e41] at hK
        have hK := Lib.hid hK
        go_wp2
        exact hK.out _ _ ⟨_, rfl, Blk.new _ _ _⟩ ((Below.refl _ _).alloc (Nat.le_refl _) _) (fun h => by cases h)
      refine steps2_cons ?_ ?_
      · intro f w1 hb hd Q hK
        obtain ⟨g43, e43, bk43⟩ := (hd.1 rfl : ElB r (f 43) w1)
        have e41 : f 41 = .bool false := hd.2.1 rfl
        clear hd
        simp only [e43, e41] at hK
        have hK := Lib.hid hK
        go_wp2_with fail
        refine (right_c g43 1 1 (by decide) (fun _ => r) (fun _ => hwr) _ bk43.lt (cells1 _ bk43)).mono ?_
        rintro e w2 ⟨rfl, hb2⟩
        go_wp2
        exact hK.out _ _ (by show Value.bool _ = _; rw [cr1.out]) hb2 (fun h => by cases h)
      refine steps2_cons ?_ ?_
      · intro f w1 hb hd Q hK
        have e44 : f 44 = .bool true := hd.1 rfl
        have e41 : f 41 = .bool false := hd.2.1 rfl
        clear hd
        simp only [e44, e41] at hK
        have hK := Lib.hid hK
        go_wp2
        exact hK.out _ _ rfl (Below.refl _ _) (fun h => by cases h)
      refine steps2_cons ?_ ?_
      · intro f w1 hb hd Q hK
        have e41 : f 41 = .bool false := hd.1 rfl
        have e45 : f 45 = .bool false := hd.2.1 rfl
        have e38 : f 38 = .bool true := hd.2.2.1 rfl
        clear hd
        simp only [e41, e45, e38] at hK
        have hK := Lib.hid hK
        go_wp2
        exact hK.out _ _ rfl (Below.refl _ _) (fun h => by cases h)
      refine steps2_cons ?_ ?_
      · intro f w1 hb hd Q hK
        have e46 : f 46 = .bool false := hd.1 rfl
        have e38 : f 38 = .bool true := hd.2.2.1 rfl
        clear hd
        simp only [e46, e38] at hK
        have hK := Lib.hid hK
        go_wp2
        exact hK.out _ _ rfl (Below.refl _ _) (fun h => by cases h)
      refine steps2_cons ?_ ?_
      · intro f w1 hb hd Q hK
        have e47 : f 47 = .bool false := hd.1 rfl
        clear hd
        simp only [e47] at hK
        have hK := Lib.hid hK
        obtain ⟨c0, c1, c2, c3, c4⟩ := blk5 (hR.below hb)
        go_wp2
        exact hK.out _ _ rfl (Below.refl _ _) (fun h => by cases h)
      refine steps2_cons ?_ ?_
      · intro f w1 hb hd Q hK
        have e48 : f 48 = .agg #[.int .u64 r.a0, .int .u64 r.a1, .int .u64 r.a2, .int .u64 r.a3, .int .u64 r.a4] := hd.1 rfl
        have e47 : f 47 = .bool false := hd.2.1 rfl
        clear hd
        simp only [e48, e47] at hK
        have hK := Lib.hid hK
        go_wp2_with fail
        refine ((square_E r hwr) _).mono ?_
        rintro e w2 ⟨rfl, hb2⟩
        go_wp2
        exact hK.out _ _ rfl hb2 (fun h => by cases h)
      refine steps2_cons ?_ ?_
      · intro f w1 hb hd Q hK
        have e47 : f 47 = .bool false := hd.1 rfl
        clear hd
        simp only [e47] at hK
        have hK := Lib.hid hK
        obtain ⟨c0, c1, c2, c3, c4⟩ := blk5 (hV.below hb)
        go_wp2
        exact hK.out _ _ rfl (Below.refl _ _) (fun h => by cases h)
      refine steps2_cons ?_ ?_
      · intro f w1 hb hd Q hK
        have e49 : f 49 = .agg #[.int .u64 (Fe.mulE r r).a0, .int .u64 (Fe.mulE r r).a1, .int .u64 (Fe.mulE r r).a2, .int .u64 (Fe.mulE r r).a3, .int .u64 (Fe.mulE r r).a4] := hd.1 rfl
        have e50 : f 50 = .agg #[.int .u64 v.a0, .int .u64 v.a1, .int .u64 v.a2, .int .u64 v.a3, .int .u64 v.a4] := hd.2.1 rfl
        have e47 : f 47 = .bool false := hd.2.2.2.1 rfl
        clear hd
        simp only [e49, e50, e47] at hK
        have hK := Lib.hid hK
        go_wp2_with fail
        refine ((mul_E (Fe.mulE r r) v (Fe.mulE_w _ _) hwv) _).mono ?_
        rintro e w2 ⟨rfl, hb2⟩
        go_wp2
        exact hK.out _ _ rfl hb2 (fun h => by cases h)
      refine steps2_cons ?_ ?_
      · intro f w1 hb hd Q hK
        have e47 : f 47 = .bool false := hd.1 rfl
        clear hd
        simp only [e47] at hK
        have hK := Lib.hid hK
        obtain ⟨c0, c1, c2, c3, c4⟩ := blk5 (hU.below hb)
        go_wp2
        exact hK.out _ _ rfl (Below.refl _ _) (fun h => by cases h)
      refine steps2_cons ?_ ?_
      · intro f w1 hb hd Q hK
        have e51 : f 51 = .agg #[.int .u64 (Fe.mulE (Fe.mulE r r) v).a0, .int .u64 (Fe.mulE (Fe.mulE r r) v).a1, .int .u64 (Fe.mulE (Fe.mulE r r) v).a2, .int .u64 (Fe.mulE (Fe.mulE r r) v).a3, .int .u64 (Fe.mulE (Fe.mulE r r) v).a4] := hd.1 rfl
        have e52 : f 52 = .agg #[.int .u64 (Fe.mulE (Fe.mulE a a) v).a0, .int .u64 (Fe.mulE (Fe.mulE a a) v).a1, .int .u64 (Fe.mulE (Fe.mulE a a) v).a2, .int .u64 (Fe.mulE (Fe.mulE a a) v).a3, .int .u64 (Fe.mulE (Fe.mulE a a) v).a4] := hd.2.1 rfl
        have e47 : f 47 = .bool false := hd.2.2.2.1 rfl
        clear hd
        simp only [e51, e52, e47] at hK
        have hK := Lib.hid hK
        go_wp2_with fail
        refine (cback.out _).mono ?_
        rintro e w2 ⟨rfl, hb2⟩
        go_wp2
        exact hK.out _ _ rfl hb2 (fun h => by cases h)
      refine steps2_cons ?_ ?_
      · intro f w1 hb hd Q hK
        have e53 : f 53 = .bool true := hd.1 rfl
        have e47 : f 47 = .bool false := hd.2.1 rfl
        clear hd
        simp only [e53, e47] at hK
        have hK := Lib.hid hK
        go_wp2
        exact hK.out _ _ rfl (Below.refl _ _) (fun h => by cases h)
      refine steps2_cons ?_ ?_
      · intro f w1 hb hd Q hK
        have e47 : f 47 = .bool false := hd.1 rfl
        have e54 : f 54 = .bool false := hd.2.1 rfl
        have e38 : f 38 = .bool true := hd.2.2.1 rfl
        clear hd
        simp only [e47, e54, e38] at hK
        have hK := Lib.hid hK
        go_wp2
        exact hK.out _ _ rfl (Below.refl _ _) (fun h => by cases h)
      refine steps2_cons ?_ ?_
      · intro f w1 hb hd Q hK
        have e38 : f 38 = .bool true := hd.1 rfl
        have e55 : f 55 = .bool false := hd.2.1 rfl
        have e36 : f 36 = .bool false := hd.2.2.1 rfl
        clear hd
        simp only [e38, e55, e36] at hK
        have hK := Lib.hid hK
        go_wp2
        exact hK.out _ _ rfl (Below.refl _ _) (fun h => by cases h)
      refine steps2_cons ?_ ?_
      · intro f w1 hb hd Q hK
        have e36 : f 36 = .bool false := hd.1 rfl
        have e56 : f 56 = .bool false := hd.2.1 rfl
        clear hd
        simp only [e36, e56] at hK
        have hK := Lib.hid hK
        go_wp2
        exact hK.out _ _ rfl (Below.refl _ _) (fun h => by cases h)
      trivial
    · intro f7 y7 hb hf hne
      refine wpList_nil ?_
      have d57 : f7 57 = .bool false := hf 28 _ _ (by decide) rfl rfl
      clear hf hne
      replace hA := hA.below hb
      replace hV := hV.below hb
      replace hU := hU.below hb
      replace hR := hR.below hb
      replace hb0 := hb0.trans (hb.mono hb0.size)
      clear hb
      simp only [d57]
      clear d57
      have hAlt := hA.lt
      have hUlt := hU.lt
      obtain ⟨q0, q1, q2, q3, q4⟩ := blk5 hV
      go_wp2_with fail
      refine (czv.out _).mono ?_
      rintro e wB ⟨rfl, hbB⟩
      clear q0 q1 q2 q3 q4
      replace hA := hA.below hbB
      replace hV := hV.below hbB
      replace hU := hU.below hbB
      replace hR := hR.below hbB
      replace hb0 := hb0.trans (hbB.mono hb0.size)
      clear hbB
      cases zv
      · have hza := hz' rfl
        subst hza
        obtain ⟨p0, p1, p2, p3, p4⟩ := blk5 hA
        go_wp2_with fail
        refine (cza.out _).mono ?_
        rintro e wC ⟨rfl, hbC⟩
        replace hb0 := hb0.trans (hbC.mono hb0.size)
        go_wp2
        go_returns
        exact ⟨rfl, hb0⟩
      · go_wp2
        go_returns
        exact ⟨rfl, hb0⟩
set_option maxHeartbeats 8000000 in
set_option maxRecDepth 100000 in
theorem fieldRoots_g (a v r s z : Fe.E) (hwa : Fe.W a) (hwv : Fe.W v) (hwr : Fe.W r) (hws : Fe.W s) (hr : rightB 2 (xs2 a v) = true) (p b : Bool)
    (croot : ∀ w, Calls Try.prog 10 #[.agg #[.int .u64 (Fe.mulE (Fe.mulE a a) v).a0, .int .u64 (Fe.mulE (Fe.mulE a a) v).a1, .int .u64 (Fe.mulE (Fe.mulE a a) v).a2, .int .u64 (Fe.mulE (Fe.mulE a a) v).a3, .int .u64 (Fe.mulE (Fe.mulE a a) v).a4], .agg #[.int .u64 v.a0, .int .u64 v.a1, .int .u64 v.a2, .int .u64 v.a3, .int .u64 v.a4]] w (PostR r true w))
    (codd : ∀ w, Calls Try.prog 24 #[.agg #[.int .u64 r.a0, .int .u64 r.a1, .int .u64 r.a2, .int .u64 r.a3, .int .u64 r.a4]] w (PostV (.bool false) w))
    (cr1 : rightB 1 (fun _ => r) = true)
    (cback : ∀ w, Calls Try.prog 21 #[.agg #[.int .u64 (Fe.mulE (Fe.mulE r r) v).a0, .int .u64 (Fe.mulE (Fe.mulE r r) v).a1, .int .u64 (Fe.mulE (Fe.mulE r r) v).a2, .int .u64 (Fe.mulE (Fe.mulE r r) v).a3, .int .u64 (Fe.mulE (Fe.mulE r r) v).a4], .agg #[.int .u64 (Fe.mulE (Fe.mulE a a) v).a0, .int .u64 (Fe.mulE (Fe.mulE a a) v).a1, .int .u64 (Fe.mulE (Fe.mulE a a) v).a2, .int .u64 (Fe.mulE (Fe.mulE a a) v).a3, .int .u64 (Fe.mulE (Fe.mulE a a) v).a4]] w (PostV (.bool true) w))
    (czv : ∀ w, Calls Try.prog 23 #[.agg #[.int .u64 v.a0, .int .u64 v.a1, .int .u64 v.a2, .int .u64 v.a3, .int .u64 v.a4]] w (PostV (.bool false) w))
    (cza : ∀ w, Calls Try.prog 23 #[.agg #[.int .u64 a.a0, .int .u64 a.a1, .int .u64 a.a2, .int .u64 a.a3, .int .u64 a.a4]] w (PostV (.bool false) w))
    (croot1 : ∀ w, Calls Try.prog 10 #[.agg #[.int .u64 a.a0, .int .u64 a.a1, .int .u64 a.a2, .int .u64 a.a3, .int .u64 a.a4], .agg #[.int .u64 1, .int .u64 0, .int .u64 0, .int .u64 0, .int .u64 0]] w (PostR s b w))
    (croot2 : ∀ w, Calls Try.prog 10 #[.agg #[.int .u64 (Fe.addE a a).a0, .int .u64 (Fe.addE a a).a1, .int .u64 (Fe.addE a a).a2, .int .u64 (Fe.addE a a).a3, .int .u64 (Fe.addE a a).a4], .agg #[.int .u64 1, .int .u64 0, .int .u64 0, .int .u64 0, .int .u64 0]] w (PostR z (!b) w))
    (csa : ∀ w, Calls Try.prog 21 #[.agg #[.int .u64 r.a0, .int .u64 r.a1, .int .u64 r.a2, .int .u64 r.a3, .int .u64 r.a4], .agg #[.int .u64 a.a0, .int .u64 a.a1, .int .u64 a.a2, .int .u64 a.a3, .int .u64 a.a4]] w (PostV (.bool p) w))
    (csn : p = false → ∀ w, Calls Try.prog 21 #[.agg #[.int .u64 r.a0, .int .u64 r.a1, .int .u64 r.a2, .int .u64 r.a3, .int .u64 r.a4], .agg #[.int .u64 (Fe.subE ⟨0, 0, 0, 0, 0⟩ a).a0, .int .u64 (Fe.subE ⟨0, 0, 0, 0, 0⟩ a).a1, .int .u64 (Fe.subE ⟨0, 0, 0, 0, 0⟩ a).a2, .int .u64 (Fe.subE ⟨0, 0, 0, 0, 0⟩ a).a3, .int .u64 (Fe.subE ⟨0, 0, 0, 0, 0⟩ a).a4]] w (PostV (.bool true) w))
    (css : b = true → ∀ w, Calls Try.prog 21 #[.agg #[.int .u64 (Fe.mulE s s).a0, .int .u64 (Fe.mulE s s).a1, .int .u64 (Fe.mulE s s).a2, .int .u64 (Fe.mulE s s).a3, .int .u64 (Fe.mulE s s).a4], .agg #[.int .u64 a.a0, .int .u64 a.a1, .int .u64 a.a2, .int .u64 a.a3, .int .u64 a.a4]] w (PostV (.bool true) w))
    (cso : b = true → ∀ w, Calls Try.prog 24 #[.agg #[.int .u64 s.a0, .int .u64 s.a1, .int .u64 s.a2, .int .u64 s.a3, .int .u64 s.a4]] w (PostV (.bool false) w))
    (w : World) : Calls Try.prog 7 #[.agg #[.int .u64 a.a0, .int .u64 a.a1, .int .u64 a.a2, .int .u64 a.a3, .int .u64 a.a4], .agg #[.int .u64 v.a0, .int .u64 v.a1, .int .u64 v.a2, .int .u64 v.a3, .int .u64 v.a4]] w (PostV (.bool true) w) := by
  replace croot := Lib.hid croot
  replace codd := Lib.hid codd
  replace cr1 := Lib.hid cr1
  replace cback := Lib.hid cback
  replace czv := Lib.hid czv
  replace cza := Lib.hid cza
  replace croot1 := Lib.hid croot1
  replace croot2 := Lib.hid croot2
  replace csa := Lib.hid csa
  replace csn := Lib.hid csn
  replace css := Lib.hid css
  replace cso := Lib.hid cso
  replace hr := Lib.hid hr
  go_enter Try.func7, Try.ntmps7
  go_wp2_with fail
  refine calls_at (fun W0 hW => ?_)
  have hA : Blk W0 (w.heap.size) 24 #[.int .u64 a.a0, .int .u64 a.a1, .int .u64 a.a2, .int .u64 a.a3, .int .u64 a.a4] := by rw [hW]; exact (Blk.new _ _ _).alloc _
  have hV : Blk W0 (w.heap.size + 1) 24 #[.int .u64 v.a0, .int .u64 v.a1, .int .u64 v.a2, .int .u64 v.a3, .int .u64 v.a4] := by rw [hW]; exact blk_at (by simp) (Blk.new _ _ _)
  have hb0 : Below w.heap.size w W0 := by rw [hW]; go_grown
  clear hW
  refine (awake_c _).mono ?_
  rintro e w1 ⟨rfl, hb1⟩
  replace hA := hA.below hb1
  replace hV := hV.below hb1
  replace hb0 := hb0.trans (hb1.mono hb0.size)
  clear hb1
  obtain ⟨p0, p1, p2, p3, p4⟩ := blk5 hA
  obtain ⟨q0, q1, q2, q3, q4⟩ := blk5 hV
  go_wp2_with fail
  refine calls_at (fun W1 hW => ?_)
  replace hb0 : Below w.heap.size w W1 := by rw [hW]; exact hb0.alloc hb0.size _
  have hS : Blk W1 w1.heap.size 24 (dv2 a v) := by rw [hW]; exact Blk.new _ _ _
  replace hA : Blk W1 (w.heap.size) 24 #[.int .u64 a.a0, .int .u64 a.a1, .int .u64 a.a2, .int .u64 a.a3, .int .u64 a.a4] := by rw [hW]; exact hA.alloc _
  replace hV : Blk W1 (w.heap.size + 1) 24 #[.int .u64 v.a0, .int .u64 v.a1, .int .u64 v.a2, .int .u64 v.a3, .int .u64 v.a4] := by rw [hW]; exact hV.alloc _
  clear hW p0 p1 p2 p3 p4 q0 q1 q2 q3 q4
  refine (right_c w1.heap.size 2 2 (by decide) (xs2 a v) (fun i => by unfold xs2; split <;> assumption) _ hS.lt (cells2 a v hS)).mono ?_
  rintro e w2 ⟨rfl, hb2⟩
  clear hS
  replace hA := hA.below hb2
  replace hV := hV.below hb2
  replace hb0 := hb0.trans (hb2.mono hb0.size)
  clear hb2
  rw [hr.out]
  generalize w1.heap.size = gs
  have hAlt := hA.lt
  have hVlt := hV.lt
  go_wp2
  refine wp_region_grow2 5 (fun k => Nat.beq k 5 || (Nat.ble 19 k && Nat.ble k 22)) _ [] (fun j x' q => (fo5L a v w2.heap.size).getD j (fun _ _ => True) x' q) (fun j => j == 4) (fun f => #[.agg #[.int .u64 a.a0, .int .u64 a.a1, .int .u64 a.a2, .int .u64 a.a3, .int .u64 a.a4], .agg #[.int .u64 v.a0, .int .u64 v.a1, .int .u64 v.a2, .int .u64 v.a3, .int .u64 v.a4], .pointer (some ⟨w.heap.size, 0, none⟩), .pointer (some ⟨w.heap.size + 1, 0, none⟩), .bool false, f 5, undef, undef, undef, undef, undef, undef, .bool true, .bool false, .agg #[.int .u64 a.a0, .int .u64 a.a1, .int .u64 a.a2, .int .u64 a.a3, .int .u64 a.a4], .agg #[.int .u64 v.a0, .int .u64 v.a1, .int .u64 v.a2, .int .u64 v.a3, .int .u64 v.a4], .slice (some ⟨gs, 0, none⟩) 2 2, .bool true, .bool false, f 19, f 20, f 21, f 22, undef, undef, undef, undef, undef, undef, undef, undef, undef, undef, undef, undef, undef, undef, undef, undef, undef, undef, undef, undef, undef, undef, undef, undef, undef, undef, undef, undef, undef, undef, undef, undef, undef, undef, undef, undef, undef, undef, undef, undef, undef, undef, undef, undef, undef, undef, undef, undef, undef, undef, undef, undef, undef, undef, undef, undef, undef, undef, undef, undef, undef, undef, undef, undef, undef, undef, undef, undef, undef, undef, undef, undef, undef, undef, undef, undef, undef, undef, undef, undef, undef, undef, undef, undef, undef, undef, undef, undef]) (fun f => rfl) (by kernel_rfl) (by kernel_rfl) (by kernel_rfl) (by kernel_rfl) (by kernel_rfl) (fo5S _ _ _) (fo5O _ _ _) ?_ ?_
  · refine steps2_cons ?_ ?_
    · intro f w1 hb hd Q hK
      clear hd
      have hK := Lib.hid hK
      obtain ⟨c0, c1, c2, c3, c4⟩ := blk5 (hA.below hb)
      go_wp2
      exact hK.out _ _ rfl (Below.refl _ _) (fun h => by cases h)
    refine steps2_cons ?_ ?_
    · intro f w1 hb hd Q hK
      have e19 : f 19 = .agg #[.int .u64 a.a0, .int .u64 a.a1, .int .u64 a.a2, .int .u64 a.a3, .int .u64 a.a4] := hd.1 rfl
      clear hd
      simp only [e19] at hK
      have hK := Lib.hid hK
      go_wp2_with fail
      refine ((square_E a hwa) _).mono ?_
      rintro e w2 ⟨rfl, hb2⟩
      go_wp2
      exact hK.out _ _ rfl hb2 (fun h => by cases h)
    refine steps2_cons ?_ ?_
    · intro f w1 hb hd Q hK
      clear hd
      have hK := Lib.hid hK
      obtain ⟨c0, c1, c2, c3, c4⟩ := blk5 (hV.below hb)
      go_wp2
      exact hK.out _ _ rfl (Below.refl _ _) (fun h => by cases h)
    refine steps2_cons ?_ ?_
    · intro f w1 hb hd Q hK
      have e20 : f 20 = .agg #[.int .u64 (Fe.mulE a a).a0, .int .u64 (Fe.mulE a a).a1, .int .u64 (Fe.mulE a a).a2, .int .u64 (Fe.mulE a a).a3, .int .u64 (Fe.mulE a a).a4] := hd.1 rfl
      have e21 : f 21 = .agg #[.int .u64 v.a0, .int .u64 v.a1, .int .u64 v.a2, .int .u64 v.a3, .int .u64 v.a4] := hd.2.1 rfl
      clear hd
      simp only [e20, e21] at hK
      have hK := Lib.hid hK
      go_wp2_with fail
      refine ((mul_E (Fe.mulE a a) v (Fe.mulE_w _ _) hwv) _).mono ?_
      rintro e w2 ⟨rfl, hb2⟩
      go_wp2
      exact hK.out _ _ rfl hb2 (fun h => by cases h)
    refine steps2_cons ?_ ?_
    · intro f w1 hb hd Q hK
      clear hd
      have hK := Lib.hid hK
      have hsz := hb.size
      go_wp2
      exact hK.out _ _ ⟨_, rfl, hsz, Blk.new _ _ _⟩ ((Below.refl _ _).alloc (Nat.le_refl _) _) (fun _ => ⟨_, rfl, Nat.le_refl _⟩)
    trivial
  · intro f5 y5 hb hf hne
    obtain ⟨g5, d5, lo5, bk5⟩ : NewB w2.heap.size 24 #[.int .u64 0, .int .u64 0, .int .u64 0, .int .u64 0, .int .u64 0] (f5 5) y5 := hf 4 _ _ (by decide) rfl rfl
    have d22 : f5 22 = .agg #[.int .u64 (Fe.mulE (Fe.mulE a a) v).a0, .int .u64 (Fe.mulE (Fe.mulE a a) v).a1, .int .u64 (Fe.mulE (Fe.mulE a a) v).a2, .int .u64 (Fe.mulE (Fe.mulE a a) v).a3, .int .u64 (Fe.mulE (Fe.mulE a a) v).a4] := hf 3 _ _ (by decide) rfl rfl
    clear hf hne
    simp only [d5, d22]
    refine wpList_store_blk rfl _ _ _ rfl g5 24 #[.int .u64 0, .int .u64 0, .int .u64 0, .int .u64 0, .int .u64 0] #[.int .u64 (Fe.mulE (Fe.mulE a a) v).a0, .int .u64 (Fe.mulE (Fe.mulE a a) v).a1, .int .u64 (Fe.mulE (Fe.mulE a a) v).a2, .int .u64 (Fe.mulE (Fe.mulE a a) v).a3, .int .u64 (Fe.mulE (Fe.mulE a a) v).a4] rfl rfl bk5 rfl (by kernel_rfl) (by kernel_rfl) ?_
    intro w3 hnew hgr hsz
    replace hA := (hA.below hb).grown hgr (fun hh => by injection hh with hh; have := hA.lt; omega)
    replace hV := (hV.below hb).grown hgr (fun hh => by injection hh with hh; have := hV.lt; omega)
    replace hb0 := (hb0.trans (hb.mono hb0.size)).grown hgr (Nat.le_trans hb0.size hb.size) (fun k hk => by injection hk with hk; have := hb0.size; omega)
    have hU := hnew
    have hUlt := hU.lt
    clear hnew hgr hsz hb bk5 d5 d22
    obtain ⟨p0, p1, p2, p3, p4⟩ := blk5 hU
    obtain ⟨q0, q1, q2, q3, q4⟩ := blk5 hV
    go_wp2_with fail
    refine (croot.out _).mono ?_
    rintro e wA ⟨rfl, hbA⟩
    clear p0 p1 p2 p3 p4 q0 q1 q2 q3 q4
    replace hA := hA.below hbA
    replace hV := hV.below hbA
    replace hU := hU.below hbA
    replace hb0 := hb0.trans (hbA.mono hb0.size)
    clear hbA
    go_wp2
    refine at_world (fun W3 hW => ?_)
    replace hb0 : Below w.heap.size w W3 := by rw [hW]; exact hb0.alloc hb0.size _
    have hR : Blk W3 wA.heap.size 24 #[.int .u64 r.a0, .int .u64 r.a1, .int .u64 r.a2, .int .u64 r.a3, .int .u64 r.a4] := by rw [hW]; exact Blk.new _ _ _
    replace hA : Blk W3 (w.heap.size) 24 #[.int .u64 a.a0, .int .u64 a.a1, .int .u64 a.a2, .int .u64 a.a3, .int .u64 a.a4] := by rw [hW]; exact hA.alloc _
    replace hV : Blk W3 (w.heap.size + 1) 24 #[.int .u64 v.a0, .int .u64 v.a1, .int .u64 v.a2, .int .u64 v.a3, .int .u64 v.a4] := by rw [hW]; exact hV.alloc _
    replace hU : Blk W3 (g5) 24 #[.int .u64 (Fe.mulE (Fe.mulE a a) v).a0, .int .u64 (Fe.mulE (Fe.mulE a a) v).a1, .int .u64 (Fe.mulE (Fe.mulE a a) v).a2, .int .u64 (Fe.mulE (Fe.mulE a a) v).a3, .int .u64 (Fe.mulE (Fe.mulE a a) v).a4] := by rw [hW]; exact hU.alloc _
    clear hW
    generalize wA.heap.size = gr at *
    refine wp_region_grow2 29 (fun k => (Nat.ble 29 k && Nat.ble k 57)) _ [] (fun j x' q => (fo7L a v r).getD j (fun _ _ => True) x' q) (fun _ => false) (fun f => #[.agg #[.int .u64 a.a0, .int .u64 a.a1, .int .u64 a.a2, .int .u64 a.a3, .int .u64 a.a4], .agg #[.int .u64 v.a0, .int .u64 v.a1, .int .u64 v.a2, .int .u64 v.a3, .int .u64 v.a4], .pointer (some ⟨w.heap.size, 0, none⟩), .pointer (some ⟨w.heap.size + 1, 0, none⟩), .bool false, .pointer (some ⟨g5, 0, none⟩), .pointer (some ⟨gr, 0, none⟩), .bool true, undef, undef, undef, undef, .bool true, .bool false, .agg #[.int .u64 a.a0, .int .u64 a.a1, .int .u64 a.a2, .int .u64 a.a3, .int .u64 a.a4], .agg #[.int .u64 v.a0, .int .u64 v.a1, .int .u64 v.a2, .int .u64 v.a3, .int .u64 v.a4], .slice (some ⟨gs, 0, none⟩) 2 2, .bool true, .bool false, f5 19, f5 20, f5 21, .agg #[.int .u64 (Fe.mulE (Fe.mulE a a) v).a0, .int .u64 (Fe.mulE (Fe.mulE a a) v).a1, .int .u64 (Fe.mulE (Fe.mulE a a) v).a2, .int .u64 (Fe.mulE (Fe.mulE a a) v).a3, .int .u64 (Fe.mulE (Fe.mulE a a) v).a4], .tuple #[.agg #[.int .u64 r.a0, .int .u64 r.a1, .int .u64 r.a2, .int .u64 r.a3, .int .u64 r.a4], .bool true], .agg #[.int .u64 (Fe.mulE (Fe.mulE a a) v).a0, .int .u64 (Fe.mulE (Fe.mulE a a) v).a1, .int .u64 (Fe.mulE (Fe.mulE a a) v).a2, .int .u64 (Fe.mulE (Fe.mulE a a) v).a3, .int .u64 (Fe.mulE (Fe.mulE a a) v).a4], .agg #[.int .u64 v.a0, .int .u64 v.a1, .int .u64 v.a2, .int .u64 v.a3, .int .u64 v.a4], .tuple #[.agg #[.int .u64 r.a0, .int .u64 r.a1, .int .u64 r.a2, .int .u64 r.a3, .int .u64 r.a4], .bool true], .agg #[.int .u64 r.a0, .int .u64 r.a1, .int .u64 r.a2, .int .u64 r.a3, .int .u64 r.a4], .bool true, f 29, f 30, f 31, f 32, f 33, f 34, f 35, f 36, f 37, f 38, f 39, f 40, f 41, f 42, f 43, f 44, f 45, f 46, f 47, f 48, f 49, f 50, f 51, f 52, f 53, f 54, f 55, f 56, f 57, undef, undef, undef, undef, undef, undef, undef, undef, undef, undef, undef, undef, undef, undef, undef, undef, undef, undef, undef, undef, undef, undef, undef, undef, undef, undef, undef, undef, undef, undef, undef, undef, undef, undef, undef, undef, undef, undef, undef, undef, undef, undef, undef, undef, undef, undef, undef, undef, undef, undef, undef, undef, undef]) (fun f => rfl) (by kernel_rfl) (by kernel_rfl) (by kernel_rfl) (by kernel_rfl) (by kernel_rfl) (fo7S _ _ _) (fun _ _ _ h => by cases h) ?_ ?_
    · refine steps2_cons ?_ ?_
      · intro f w1 hb hd Q hK
        clear hd
        have hK := Lib.hid hK
        go_wp2
        exact hK.out _ _ rfl (Below.refl _ _) (fun h => by cases h)
      refine steps2_cons ?_ ?_
      · intro f w1 hb hd Q hK
        have e29 : f 29 = .bool true := hd.1 rfl
        clear hd
        simp only [e29] at hK
        have hK := Lib.hid hK
        go_wp2
        exact hK.out _ _ rfl (Below.refl _ _) (fun h => by cases h)
      refine steps2_cons ?_ ?_
      · intro f w1 hb hd Q hK
        have e30 : f 30 = .bool false := hd.1 rfl
        clear hd
        simp only [e30] at hK
        have hK := Lib.hid hK
        go_wp2
        exact hK.out _ _ rfl (Below.refl _ _) (fun h => by cases h)
      refine steps2_cons ?_ ?_
      · intro f w1 hb hd Q hK
        have e31 : f 31 = .bool false := hd.1 rfl
        clear hd
        simp only [e31] at hK
        have hK := Lib.hid hK
        go_wp2
        exact hK.out _ _ rfl (Below.refl _ _) (fun h => by cases h)
      refine steps2_cons ?_ ?_
      · intro f w1 hb hd Q hK
        have e32 : f 32 = undef := hd.1 rfl
        have e31 : f 31 = .bool false := hd.2.1 rfl
        clear hd
        simp only [e32, e31] at hK
        have hK := Lib.hid hK
        go_wp2
        exact hK.out _ _ rfl (Below.refl _ _) (fun h => by cases h)
      refine steps2_cons ?_ ?_
      · intro f w1 hb hd Q hK
        have e33 : f 33 = undef := hd.1 rfl
        have e31 : f 31 = .bool false := hd.2.1 rfl
        clear hd
        simp only [e33, e31] at hK
        have hK := Lib.hid hK
        go_wp2
        exact hK.out _ _ rfl (Below.refl _ _) (fun h => by cases h)
      refine steps2_cons ?_ ?_
      · intro f w1 hb hd Q hK
        have e31 : f 31 = .bool false := hd.1 rfl
        have e34 : f 34 = undef := hd.2.1 rfl
        clear hd
        simp only [e31, e34] at hK
        have hK := Lib.hid hK
        go_wp2
        exact hK.out _ _ rfl (Below.refl _ _) (fun h => by cases h)
      refine steps2_cons ?_ ?_
      · intro f w1 hb hd Q hK
        have e35 : f 35 = .bool false := hd.1 rfl
        clear hd
        simp only [e35] at hK
        have hK := Lib.hid hK
        go_wp2
        exact hK.out _ _ rfl (Below.refl _ _) (fun h => by cases h)
      refine steps2_cons ?_ ?_
      · intro f w1 hb hd Q hK
        have e36 : f 36 = .bool false := hd.1 rfl
        clear hd
        simp only [e36] at hK
        have hK := Lib.hid hK
        go_wp2
        exact hK.out _ _ rfl (Below.refl _ _) (fun h => by cases h)
      refine steps2_cons ?_ ?_
      · intro f w1 hb hd Q hK
        have e37 : f 37 = .bool true := hd.1 rfl
        have e36 : f 36 = .bool false := hd.2.1 rfl
        clear hd
        simp only [e37, e36] at hK
        have hK := Lib.hid hK
        go_wp2
        exact hK.out _ _ rfl (Below.refl _ _) (fun h => by cases h)
      refine steps2_cons ?_ ?_
      · intro f w1 hb hd Q hK
        have e38 : f 38 = .bool true := hd.1 rfl
        clear hd
        simp only [e38] at hK
        have hK := Lib.hid hK
        obtain ⟨c0, c1, c2, c3, c4⟩ := blk5 (hR.below hb)
        go_wp2
        exact hK.out _ _ rfl (Below.refl _ _) (fun h => by cases h)
      refine steps2_cons ?_ ?_
      · intro f w1 hb hd Q hK
        have e39 : f 39 = .agg #[.int .u64 r.a0, .int .u64 r.a1, .int .u64 r.a2, .int .u64 r.a3, .int .u64 r.a4] := hd.1 rfl
        have e38 : f 38 = .bool true := hd.2.1 rfl
        clear hd
        simp only [e39, e38] at hK
        have hK := Lib.hid hK
        go_wp2_with fail
        refine (codd.out _).mono ?_
        rintro e w2 ⟨rfl, hb2⟩
        go_wp2
        exact hK.out _ _ rfl hb2 (fun h => by cases h)
      refine steps2_cons ?_ ?_
      · intro f w1 hb hd Q hK
        have e40 : f 40 = .bool false := hd.1 rfl
        have e38 : f 38 = .bool true := hd.2.2.1 rfl
        clear hd
        simp only [e40, e38] at hK
        have hK := Lib.hid hK
        go_wp2
        exact hK.out _ _ rfl (Below.refl _ _) (fun h => by cases h)
      refine steps2_cons ?_ ?_
      · intro f w1 hb hd Q hK
        have e41 : f 41 = .bool false := hd.1 rfl
        clear hd
        simp only [e41] at hK
        have hK := Lib.hid hK
        obtain ⟨c0, c1, c2, c3, c4⟩ := blk5 (hR.below hb)
        go_wp2
        exact hK.out _ _ rfl (Below.refl _ _) (fun h => by cases h)
      refine steps2_cons ?_ ?_
      · intro f w1 hb hd Q hK
        have e42 : f 42 = .agg #[.int .u64 r.a0, .int .u64 r.a1, .int .u64 r.a2, .int .u64 r.a3, .int .u64 r.a4] := hd.1 rfl
        have e41 : f 41 = .bool false := hd.2.1 rfl
        clear hd
        simp only [e42, e41] at hK
        have hK := Lib.hid hK
        go_wp2
        exact hK.out _ _ ⟨_, rfl, Blk.new _ _ _⟩ ((Below.refl _ _).alloc (Nat.le_refl _) _) (fun h => by cases h)
      refine steps2_cons ?_ ?_
      · intro f w1 hb hd Q hK
        obtain ⟨g43, e43, bk43⟩ := (hd.1 rfl : ElB r (f 43) w1)
        have e41 : f 41 = .bool false := hd.2.1 rfl
        clear hd
        simp only [e43, e41] at hK
        have hK := Lib.hid hK
        go_wp2_with fail
        refine (right_c g43 1 1 (by decide) (fun _ => r) (fun _ => hwr) _ bk43.lt (cells1 _ bk43)).mono ?_
        rintro e w2 ⟨rfl, hb2⟩
        go_wp2
        exact hK.out _ _ (by show Value.bool _ = _; rw [cr1.out]) hb2 (fun h => by cases h)
      refine steps2_cons ?_ ?_
      · intro f w1 hb hd Q hK
        have e44 : f 44 = .bool true := hd.1 rfl
        have e41 : f 41 = .bool false := hd.2.1 rfl
        clear hd
        simp only [e44, e41] at hK
        have hK := Lib.hid hK
        go_wp2
        exact hK.out _ _ rfl (Below.refl _ _) (fun h => by cases h)
      refine steps2_cons ?_ ?_
      · intro f w1 hb hd Q hK
        have e41 : f 41 = .bool false := hd.1 rfl
        have e45 : f 45 = .bool false := hd.2.1 rfl
        have e38 : f 38 = .bool true := hd.2.2.1 rfl
        clear hd
        simp only [e41, e45, e38] at hK
        have hK := Lib.hid hK
        go_wp2
        exact hK.out _ _ rfl (Below.refl _ _) (fun h => by cases h)
      refine steps2_cons ?_ ?_
      · intro f w1 hb hd Q hK
        have e46 : f 46 = .bool false := hd.1 rfl
        have e38 : f 38 = .bool true := hd.2.2.1 rfl
        clear hd
        simp only [e46, e38] at hK
        have hK := Lib.hid hK
        go_wp2
        exact hK.out _ _ rfl (Below.refl _ _) (fun h => by cases h)
      refine steps2_cons ?_ ?_
      · intro f w1 hb hd Q hK
        have e47 : f 47 = .bool false := hd.1 rfl
        clear hd
        simp only [e47] at hK
        have hK := Lib.hid hK
        obtain ⟨c0, c1, c2, c3, c4⟩ := blk5 (hR.below hb)
        go_wp2
        exact hK.out _ _ rfl (Below.refl _ _) (fun h => by cases h)
      refine steps2_cons ?_ ?_
      · intro f w1 hb hd Q hK
        have e48 : f 48 = .agg #[.int .u64 r.a0, .int .u64 r.a1, .int .u64 r.a2, .int .u64 r.a3, .int .u64 r.a4] := hd.1 rfl
        have e47 : f 47 = .bool false := hd.2.1 rfl
        clear hd
        simp only [e48, e47] at hK
        have hK := Lib.hid hK
        go_wp2_with fail
        refine ((square_E r hwr) _).mono ?_
        rintro e w2 ⟨rfl, hb2⟩
        go_wp2
        exact hK.out _ _ rfl hb2 (fun h => by cases h)
      refine steps2_cons ?_ ?_
      · intro f w1 hb hd Q hK
        have e47 : f 47 = .bool false := hd.1 rfl
        clear hd
        simp only [e47] at hK
        have hK := Lib.hid hK
        obtain ⟨c0, c1, c2, c3, c4⟩ := blk5 (hV.below hb)
        go_wp2
        exact hK.out _ _ rfl (Below.refl _ _) (fun h => by cases h)
      refine steps2_cons ?_ ?_
      · intro f w1 hb hd Q hK
        have e49 : f 49 = .agg #[.int .u64 (Fe.mulE r r).a0, .int .u64 (Fe.mulE r r).a1, .int .u64 (Fe.mulE r r).a2, .int .u64 (Fe.mulE r r).a3, .int .u64 (Fe.mulE r r).a4] := hd.1 rfl
        have e50 : f 50 = .agg #[.int .u64 v.a0, .int .u64 v.a1, .int .u64 v.a2, .int .u64 v.a3, .int .u64 v.a4] := hd.2.1 rfl
        have e47 : f 47 = .bool false := hd.2.2.2.1 rfl
        clear hd
        simp only [e49, e50, e47] at hK
        have hK := Lib.hid hK
        go_wp2_with fail
        refine ((mul_E (Fe.mulE r r) v (Fe.mulE_w _ _) hwv) _).mono ?_
        rintro e w2 ⟨rfl, hb2⟩
        go_wp2
        exact hK.out _ _ rfl hb2 (fun h => by cases h)
      refine steps2_cons ?_ ?_
      · intro f w1 hb hd Q hK
        have e47 : f 47 = .bool false := hd.1 rfl
        clear hd
        simp only [e47] at hK
        have hK := Lib.hid hK
        obtain ⟨c0, c1, c2, c3, c4⟩ := blk5 (hU.below hb)
        go_wp2
        exact hK.out _ _ rfl (Below.refl _ _) (fun h => by cases h)
      refine steps2_cons ?_ ?_
      · intro f w1 hb hd Q hK
        have e51 : f 51 = .agg #[.int .u64 (Fe.mulE (Fe.mulE r r) v).a0, .int .u64 (Fe.mulE (Fe.mulE r r) v).a1, .int .u64 (Fe.mulE (Fe.mulE r r) v).a2, .int .u64 (Fe.mulE (Fe.mulE r r) v).a3, .int .u64 (Fe.mulE (Fe.mulE r r) v).a4] := hd.1 rfl
        have e52 : f 52 = .agg #[.int .u64 (Fe.mulE (Fe.mulE a a) v).a0, .int .u64 (Fe.mulE (Fe.mulE a a) v).a1, .int .u64 (Fe.mulE (Fe.mulE a a) v).a2, .int .u64 (Fe.mulE (Fe.mulE a a) v).a3, .int .u64 (Fe.mulE (Fe.mulE a a) v).a4] := hd.2.1 rfl
        have e47 : f 47 = .bool false := hd.2.2.2.1 rfl
        clear hd
        simp only [e51, e52, e47] at hK
        have hK := Lib.hid hK
        go_wp2_with fail
        refine (cback.out _).mono ?_
        rintro e w2 ⟨rfl, hb2⟩
        go_wp2
        exact hK.out _ _ rfl hb2 (fun h => by cases h)
      refine steps2_cons ?_ ?_
      · intro f w1 hb hd Q hK
        have e53 : f 53 = .bool true := hd.1 rfl
        have e47 : f 47 = .bool false := hd.2.1 rfl
        clear hd
        simp only [e53, e47] at hK
        have hK := Lib.hid hK
        go_wp2
        exact hK.out _ _ rfl (Below.refl _ _) (fun h => by cases h)
      refine steps2_cons ?_ ?_
      · intro f w1 hb hd Q hK
        have e47 : f 47 = .bool false := hd.1 rfl
        have e54 : f 54 = .bool false := hd.2.1 rfl
        have e38 : f 38 = .bool true := hd.2.2.1 rfl
        clear hd
        simp only [e47, e54, e38] at hK
        have hK := Lib.hid hK
        go_wp2
        exact hK.out _ _ rfl (Below.refl _ _) (fun h => by cases h)
      refine steps2_cons ?_ ?_
      · intro f w1 hb hd Q hK
        have e38 : f 38 = .bool true := hd.1 rfl
        have e55 : f 55 = .bool false := hd.2.1 rfl
        have e36 : f 36 = .bool false := hd.2.2.1 rfl
        clear hd
        simp only [e38, e55, e36] at hK
        have hK := Lib.hid hK
        go_wp2
        exact hK.out _ _ rfl (Below.refl _ _) (fun h => by cases h)
      refine steps2_cons ?_ ?_
      · intro f w1 hb hd Q hK
        have e36 : f 36 = .bool false := hd.1 rfl
        have e56 : f 56 = .bool false := hd.2.1 rfl
        clear hd
        simp only [e36, e56] at hK
        have hK := Lib.hid hK
        go_wp2
        exact hK.out _ _ rfl (Below.refl _ _) (fun h => by cases h)
      trivial
    · intro f7 y7 hb hf hne
      refine wpList_nil ?_
      have d57 : f7 57 = .bool false := hf 28 _ _ (by decide) rfl rfl
      clear hf hne
      replace hA := hA.below hb
      replace hV := hV.below hb
      replace hU := hU.below hb
      replace hR := hR.below hb
      replace hb0 := hb0.trans (hb.mono hb0.size)
      clear hb
      simp only [d57]
      clear d57
      have hAlt := hA.lt
      have hUlt := hU.lt
      obtain ⟨q0, q1, q2, q3, q4⟩ := blk5 hV
      go_wp2_with fail
      refine (czv.out _).mono ?_
      rintro e wB ⟨rfl, hbB⟩
      clear q0 q1 q2 q3 q4
      replace hA := hA.below hbB
      replace hV := hV.below hbB
      replace hU := hU.below hbB
      replace hR := hR.below hbB
      replace hb0 := hb0.trans (hbB.mono hb0.size)
      clear hbB
      obtain ⟨p0, p1, p2, p3, p4⟩ := blk5 hA
      go_wp2_with fail
      refine (cza.out _).mono ?_
      rintro e wC ⟨rfl, hbC⟩
      clear p0 p1 p2 p3 p4
      replace hA := hA.below hbC
      replace hV := hV.below hbC
      replace hU := hU.below hbC
      replace hR := hR.below hbC
      replace hb0 := hb0.trans (hbC.mono hb0.size)
      clear hbC
      go_wp2
      go_cut [8, 9] from 200 (fun p c wx => ∃ g8, p = .pointer (some ⟨g8, 0, none⟩) ∧ c = .bool b ∧ wC.heap.size ≤ g8 ∧ Blk wx g8 24 #[.int .u64 s.a0, .int .u64 s.a1, .int .u64 s.a2, .int .u64 s.a3, .int .u64 s.a4] ∧ Below wC.heap.size wC wx)
      case first =>
        refine wp_region_grow3 7 5 (fun k => Nat.beq k 8 || (Nat.ble 65 k && Nat.ble k 70)) _ [] (fun j x' q => (fo11L a s b wC.heap.size).getD j (fun _ _ => True) x' q) (fun j => j == 6) (fun f => #[.agg #[.int .u64 a.a0, .int .u64 a.a1, .int .u64 a.a2, .int .u64 a.a3, .int .u64 a.a4], .agg #[.int .u64 v.a0, .int .u64 v.a1, .int .u64 v.a2, .int .u64 v.a3, .int .u64 v.a4], .pointer (some ⟨w.heap.size, 0, none⟩), .pointer (some ⟨w.heap.size + 1, 0, none⟩), .bool false, .pointer (some ⟨g5, 0, none⟩), .pointer (some ⟨gr, 0, none⟩), .bool true, f 8, undef, undef, undef, .bool true, .bool false, .agg #[.int .u64 a.a0, .int .u64 a.a1, .int .u64 a.a2, .int .u64 a.a3, .int .u64 a.a4], .agg #[.int .u64 v.a0, .int .u64 v.a1, .int .u64 v.a2, .int .u64 v.a3, .int .u64 v.a4], .slice (some ⟨gs, 0, none⟩) 2 2, .bool true, .bool false, f5 19, f5 20, f5 21, .agg #[.int .u64 (Fe.mulE (Fe.mulE a a) v).a0, .int .u64 (Fe.mulE (Fe.mulE a a) v).a1, .int .u64 (Fe.mulE (Fe.mulE a a) v).a2, .int .u64 (Fe.mulE (Fe.mulE a a) v).a3, .int .u64 (Fe.mulE (Fe.mulE a a) v).a4], .tuple #[.agg #[.int .u64 r.a0, .int .u64 r.a1, .int .u64 r.a2, .int .u64 r.a3, .int .u64 r.a4], .bool true], .agg #[.int .u64 (Fe.mulE (Fe.mulE a a) v).a0, .int .u64 (Fe.mulE (Fe.mulE a a) v).a1, .int .u64 (Fe.mulE (Fe.mulE a a) v).a2, .int .u64 (Fe.mulE (Fe.mulE a a) v).a3, .int .u64 (Fe.mulE (Fe.mulE a a) v).a4], .agg #[.int .u64 v.a0, .int .u64 v.a1, .int .u64 v.a2, .int .u64 v.a3, .int .u64 v.a4], .tuple #[.agg #[.int .u64 r.a0, .int .u64 r.a1, .int .u64 r.a2, .int .u64 r.a3, .int .u64 r.a4], .bool true], .agg #[.int .u64 r.a0, .int .u64 r.a1, .int .u64 r.a2, .int .u64 r.a3, .int .u64 r.a4], .bool true, f7 29, f7 30, f7 31, f7 32, f7 33, f7 34, f7 35, f7 36, f7 37, f7 38, f7 39, f7 40, f7 41, f7 42, f7 43, f7 44, f7 45, f7 46, f7 47, f7 48, f7 49, f7 50, f7 51, f7 52, f7 53, f7 54, f7 55, f7 56, .bool false, .agg #[.int .u64 v.a0, .int .u64 v.a1, .int .u64 v.a2, .int .u64 v.a3, .int .u64 v.a4], .bool false, .bool false, .agg #[.int .u64 a.a0, .int .u64 a.a1, .int .u64 a.a2, .int .u64 a.a3, .int .u64 a.a4], .bool false, .bool false, undef, f 65, f 66, f 67, f 68, f 69, f 70, undef, undef, undef, undef, undef, undef, undef, undef, undef, undef, undef, undef, undef, undef, undef, undef, undef, undef, undef, undef, undef, undef, undef, undef, undef, undef, undef, undef, undef, undef, undef, undef, undef, undef, undef, undef, undef, undef, undef, undef]) (fun f => rfl) (by decide) (by kernel_rfl) (by kernel_rfl) (by kernel_rfl) (by kernel_rfl) (by kernel_rfl) (fo11S _ _ _ _) ?_ ?_ ?_
        · refine steps2_cons ?_ ?_
          · intro f w1 hb hd Q hK
            clear hd
            have hK := Lib.hid hK
            obtain ⟨c0, c1, c2, c3, c4⟩ := blk5 (hA.below hb)
            go_wp2
            exact hK.out _ _ rfl (Below.refl _ _) (fun h => by cases h)
          refine steps2_cons ?_ ?_
          · intro f w1 hb hd Q hK
            clear hd
            have hK := Lib.hid hK
            go_wp2_with fail
            refine (one_v _).mono ?_
            rintro e w2 ⟨rfl, hb2⟩
            go_wp2
            exact hK.out _ _ rfl hb2 (fun h => by cases h)
          refine steps2_cons ?_ ?_
          · intro f w1 hb hd Q hK
            have e66 : f 66 = .agg #[.int .u64 a.a0, .int .u64 a.a1, .int .u64 a.a2, .int .u64 a.a3, .int .u64 a.a4] := hd.1 rfl
            have e67 : f 67 = .agg #[.int .u64 1, .int .u64 0, .int .u64 0, .int .u64 0, .int .u64 0] := hd.2.1 rfl
            clear hd
            simp only [e66, e67] at hK
            have hK := Lib.hid hK
            go_wp2_with fail
            refine (croot1.out _).mono ?_
            rintro e w2 ⟨rfl, hb2⟩
            go_wp2
            exact hK.out _ _ rfl hb2 (fun h => by cases h)
          refine steps2_cons ?_ ?_
          · intro f w1 hb hd Q hK
            have e68 : f 68 = .tuple #[.agg #[.int .u64 s.a0, .int .u64 s.a1, .int .u64 s.a2, .int .u64 s.a3, .int .u64 s.a4], .bool b] := hd.1 rfl
            clear hd
            simp only [e68] at hK
            have hK := Lib.hid hK
            go_wp2
            exact hK.out _ _ rfl (Below.refl _ _) (fun h => by cases h)
          refine steps2_cons ?_ ?_
          · intro f w1 hb hd Q hK
            have e65 : f 65 = .tuple #[.agg #[.int .u64 s.a0, .int .u64 s.a1, .int .u64 s.a2, .int .u64 s.a3, .int .u64 s.a4], .bool b] := hd.1 rfl
            clear hd
            simp only [e65] at hK
            have hK := Lib.hid hK
            go_wp2
            exact hK.out _ _ rfl (Below.refl _ _) (fun h => by cases h)
          refine steps2_cons ?_ ?_
          · intro f w1 hb hd Q hK
            have e65 : f 65 = .tuple #[.agg #[.int .u64 s.a0, .int .u64 s.a1, .int .u64 s.a2, .int .u64 s.a3, .int .u64 s.a4], .bool b] := hd.1 rfl
            clear hd
            simp only [e65] at hK
            have hK := Lib.hid hK
            go_wp2
            exact hK.out _ _ rfl (Below.refl _ _) (fun h => by cases h)
          refine steps2_cons ?_ ?_
          · intro f w1 hb hd Q hK
            clear hd
            have hK := Lib.hid hK
            have hsz := hb.size
            go_wp2
            exact hK.out _ _ ⟨_, rfl, hsz, Blk.new _ _ _⟩ ((Below.refl _ _).alloc (Nat.le_refl _) _) (fun _ => ⟨_, rfl, Nat.le_refl _⟩)
          trivial
        · intro f w1 hb hf
          obtain ⟨g8, d8, lo8, bk8⟩ : NewB wC.heap.size 24 #[.int .u64 0, .int .u64 0, .int .u64 0, .int .u64 0, .int .u64 0] (f 8) w1 := hf 6 _ _ (by decide) rfl rfl
          have d69 : f 69 = .agg #[.int .u64 s.a0, .int .u64 s.a1, .int .u64 s.a2, .int .u64 s.a3, .int .u64 s.a4] := hf 4 _ _ (by decide) rfl rfl
          have d70 : f 70 = .bool b := hf 5 _ _ (by decide) rfl rfl
          clear hf
          simp only [d8, d69, d70]
          refine wpList_store_blk rfl _ _ _ rfl g8 24 #[.int .u64 0, .int .u64 0, .int .u64 0, .int .u64 0, .int .u64 0] #[.int .u64 s.a0, .int .u64 s.a1, .int .u64 s.a2, .int .u64 s.a3, .int .u64 s.a4] rfl rfl bk8 rfl (by kernel_rfl) (by kernel_rfl) ?_
          intro w5 hnew hgr hsz
          have hbS : Below wC.heap.size wC w5 := hb.grown hgr hb.size (fun k hk => by injection hk with hk; omega)
          go_wp2
          go_meet
          case rel => exact ⟨g8, rfl, rfl, lo8, hnew, hbS⟩
        · intro f w1 hb hf on oe hon hoe
          cases hon
          cases hoe
          obtain ⟨g8, d8, lo8, bk8⟩ : NewB wC.heap.size 24 #[.int .u64 0, .int .u64 0, .int .u64 0, .int .u64 0, .int .u64 0] (f 8) w1 := hf 6 _ _ (by decide) (by decide) rfl rfl
          have d65 : f 65 = .tuple #[.agg #[.int .u64 s.a0, .int .u64 s.a1, .int .u64 s.a2, .int .u64 s.a3, .int .u64 s.a4], .bool b] := hf 3 _ _ (by decide) (by decide) rfl rfl
          have d69 : f 69 = .agg #[.int .u64 s.a0, .int .u64 s.a1, .int .u64 s.a2, .int .u64 s.a3, .int .u64 s.a4] := hf 4 _ _ (by decide) (by decide) rfl rfl
          clear hf
          simp only [d8, d65, d69]
          refine wpList_store_blk rfl _ _ _ rfl g8 24 #[.int .u64 0, .int .u64 0, .int .u64 0, .int .u64 0, .int .u64 0] #[.int .u64 s.a0, .int .u64 s.a1, .int .u64 s.a2, .int .u64 s.a3, .int .u64 s.a4] rfl rfl bk8 rfl (by kernel_rfl) (by kernel_rfl) ?_
          intro w5 hnew hgr hsz
          have hbS : Below wC.heap.size wC w5 := hb.grown hgr hb.size (fun k hk => by injection hk with hk; omega)
          go_wp2
          go_meet
          case rel => exact ⟨g8, rfl, rfl, lo8, hnew, hbS⟩
      case rest =>
        obtain ⟨g8, hp8, hc8, lo8, hS, hbS⟩ := hcut
        subst hp8 hc8
        replace hA := hA.below hbS
        replace hV := hV.below hbS
        replace hU := hU.below hbS
        replace hR := hR.below hbS
        replace hb0 := hb0.trans (hbS.mono hb0.size)
        clear hbS
        have hAlt := hA.lt
        have hUlt := hU.lt
        obtain ⟨p0, p1, p2, p3, p4⟩ := blk5 hA
        go_wp2_with fail
        refine (add_E a a _).mono ?_
        rintro e wD ⟨rfl, hbD⟩
        clear p0 p1 p2 p3 p4
        replace hA := hA.below hbD
        replace hV := hV.below hbD
        replace hU := hU.below hbD
        replace hR := hR.below hbD
        replace hS := hS.below hbD
        replace hb0 := hb0.trans (hbD.mono hb0.size)
        clear hbD
        go_wp2_with fail
        refine (one_v _).mono ?_
        rintro e wE ⟨rfl, hbE⟩
        replace hA := hA.below hbE
        replace hV := hV.below hbE
        replace hU := hU.below hbE
        replace hR := hR.below hbE
        replace hS := hS.below hbE
        replace hb0 := hb0.trans (hbE.mono hb0.size)
        clear hbE
        go_wp2_with fail
        refine (croot2.out _).mono ?_
        rintro e wF ⟨rfl, hbF⟩
        replace hA := hA.below hbF
        replace hV := hV.below hbF
        replace hU := hU.below hbF
        replace hR := hR.below hbF
        replace hS := hS.below hbF
        replace hb0 := hb0.trans (hbF.mono hb0.size)
        clear hbF
        go_wp2
        refine at_world (fun W5 hW => ?_)
        replace hb0 : Below w.heap.size w W5 := by rw [hW]; exact hb0.alloc hb0.size _
        replace hA : Blk W5 (w.heap.size) 24 #[.int .u64 a.a0, .int .u64 a.a1, .int .u64 a.a2, .int .u64 a.a3, .int .u64 a.a4] := by rw [hW]; exact hA.alloc _
        replace hV : Blk W5 (w.heap.size + 1) 24 #[.int .u64 v.a0, .int .u64 v.a1, .int .u64 v.a2, .int .u64 v.a3, .int .u64 v.a4] := by rw [hW]; exact hV.alloc _
        replace hU : Blk W5 (g5) 24 #[.int .u64 (Fe.mulE (Fe.mulE a a) v).a0, .int .u64 (Fe.mulE (Fe.mulE a a) v).a1, .int .u64 (Fe.mulE (Fe.mulE a a) v).a2, .int .u64 (Fe.mulE (Fe.mulE a a) v).a3, .int .u64 (Fe.mulE (Fe.mulE a a) v).a4] := by rw [hW]; exact hU.alloc _
        replace hR : Blk W5 (gr) 24 #[.int .u64 r.a0, .int .u64 r.a1, .int .u64 r.a2, .int .u64 r.a3, .int .u64 r.a4] := by rw [hW]; exact hR.alloc _
        replace hS : Blk W5 (g8) 24 #[.int .u64 s.a0, .int .u64 s.a1, .int .u64 s.a2, .int .u64 s.a3, .int .u64 s.a4] := by rw [hW]; exact hS.alloc _
        clear hW
        generalize wF.heap.size = gz at *
        cases p <;> cases b
        · clear css cso
          have csm := Lib.hid (csn.out rfl)
          clear csn
          refine wp_region_grow2 33 (fun k => Nat.beq k 4 || (Nat.ble 79 k && Nat.ble k 110)) _ [] (fun j x' q => (fo13FFL a r).getD j (fun _ _ => True) x' q) (fun _ => false) (fun f => #[.agg #[.int .u64 a.a0, .int .u64 a.a1, .int .u64 a.a2, .int .u64 a.a3, .int .u64 a.a4], .agg #[.int .u64 v.a0, .int .u64 v.a1, .int .u64 v.a2, .int .u64 v.a3, .int .u64 v.a4], .pointer (some ⟨w.heap.size, 0, none⟩), .pointer (some ⟨w.heap.size + 1, 0, none⟩), f 4, .pointer (some ⟨g5, 0, none⟩), .pointer (some ⟨gr, 0, none⟩), .bool true, .pointer (some ⟨g8, 0, none⟩), .bool false, .pointer (some ⟨gz, 0, none⟩), .bool (!false), .bool true, .bool false, .agg #[.int .u64 a.a0, .int .u64 a.a1, .int .u64 a.a2, .int .u64 a.a3, .int .u64 a.a4], .agg #[.int .u64 v.a0, .int .u64 v.a1, .int .u64 v.a2, .int .u64 v.a3, .int .u64 v.a4], .slice (some ⟨gs, 0, none⟩) 2 2, .bool true, .bool false, f5 19, f5 20, f5 21, .agg #[.int .u64 (Fe.mulE (Fe.mulE a a) v).a0, .int .u64 (Fe.mulE (Fe.mulE a a) v).a1, .int .u64 (Fe.mulE (Fe.mulE a a) v).a2, .int .u64 (Fe.mulE (Fe.mulE a a) v).a3, .int .u64 (Fe.mulE (Fe.mulE a a) v).a4], .tuple #[.agg #[.int .u64 r.a0, .int .u64 r.a1, .int .u64 r.a2, .int .u64 r.a3, .int .u64 r.a4], .bool true], .agg #[.int .u64 (Fe.mulE (Fe.mulE a a) v).a0, .int .u64 (Fe.mulE (Fe.mulE a a) v).a1, .int .u64 (Fe.mulE (Fe.mulE a a) v).a2, .int .u64 (Fe.mulE (Fe.mulE a a) v).a3, .int .u64 (Fe.mulE (Fe.mulE a a) v).a4], .agg #[.int .u64 v.a0, .int .u64 v.a1, .int .u64 v.a2, .int .u64 v.a3, .int .u64 v.a4], .tuple #[.agg #[.int .u64 r.a0, .int .u64 r.a1, .int .u64 r.a2, .int .u64 r.a3, .int .u64 r.a4], .bool true], .agg #[.int .u64 r.a0, .int .u64 r.a1, .int .u64 r.a2, .int .u64 r.a3, .int .u64 r.a4], .bool true, f7 29, f7 30, f7 31, f7 32, f7 33, f7 34, f7 35, f7 36, f7 37, f7 38, f7 39, f7 40, f7 41, f7 42, f7 43, f7 44, f7 45, f7 46, f7 47, f7 48, f7 49, f7 50, f7 51, f7 52, f7 53, f7 54, f7 55, f7 56, .bool false, .agg #[.int .u64 v.a0, .int .u64 v.a1, .int .u64 v.a2, .int .u64 v.a3, .int .u64 v.a4], .bool false, .bool false, .agg #[.int .u64 a.a0, .int .u64 a.a1, .int .u64 a.a2, .int .u64 a.a3, .int .u64 a.a4], .bool false, .bool false, undef, u65, u66, u67, u68, u69, u70, .tuple #[.agg #[.int .u64 z.a0, .int .u64 z.a1, .int .u64 z.a2, .int .u64 z.a3, .int .u64 z.a4], .bool (!false)], .agg #[.int .u64 a.a0, .int .u64 a.a1, .int .u64 a.a2, .int .u64 a.a3, .int .u64 a.a4], .agg #[.int .u64 a.a0, .int .u64 a.a1, .int .u64 a.a2, .int .u64 a.a3, .int .u64 a.a4], .agg #[.int .u64 (Fe.addE a a).a0, .int .u64 (Fe.addE a a).a1, .int .u64 (Fe.addE a a).a2, .int .u64 (Fe.addE a a).a3, .int .u64 (Fe.addE a a).a4], .agg #[.int .u64 1, .int .u64 0, .int .u64 0, .int .u64 0, .int .u64 0], .tuple #[.agg #[.int .u64 z.a0, .int .u64 z.a1, .int .u64 z.a2, .int .u64 z.a3, .int .u64 z.a4], .bool (!false)], .agg #[.int .u64 z.a0, .int .u64 z.a1, .int .u64 z.a2, .int .u64 z.a3, .int .u64 z.a4], .bool (!false), f 79, f 80, f 81, f 82, f 83, f 84, f 85, f 86, f 87, f 88, f 89, f 90, f 91, f 92, f 93, f 94, f 95, f 96, f 97, f 98, f 99, f 100, f 101, f 102, f 103, f 104, f 105, f 106, f 107, f 108, f 109, f 110]) (fun f => rfl) (by kernel_rfl) (by kernel_rfl) (by kernel_rfl) (by kernel_rfl) (by kernel_rfl) (fo13FFS _ _) (fun _ _ _ h => by cases h) ?_ ?_
          · refine steps2_cons ?_ ?_
            · intro f w1 hb hd Q hK
              clear hd
              have hK := Lib.hid hK
              go_wp2
              exact hK.out _ _ rfl (Below.refl _ _) (fun h => by cases h)
            refine steps2_cons ?_ ?_
            · intro f w1 hb hd Q hK
              have e79 : f 79 = .bool true := hd.1 rfl
              clear hd
              simp only [e79] at hK
              have hK := Lib.hid hK
              go_wp2
              exact hK.out _ _ rfl (Below.refl _ _) (fun h => by cases h)
            refine steps2_cons ?_ ?_
            · intro f w1 hb hd Q hK
              have e80 : f 80 = .bool true := hd.1 rfl
              clear hd
              simp only [e80] at hK
              have hK := Lib.hid hK
              obtain ⟨c0, c1, c2, c3, c4⟩ := blk5 (hR.below hb)
              go_wp2
              exact hK.out _ _ rfl (Below.refl _ _) (fun h => by cases h)
            refine steps2_cons ?_ ?_
            · intro f w1 hb hd Q hK
              have e80 : f 80 = .bool true := hd.1 rfl
              clear hd
              simp only [e80] at hK
              have hK := Lib.hid hK
              obtain ⟨c0, c1, c2, c3, c4⟩ := blk5 (hA.below hb)
              go_wp2
              exact hK.out _ _ rfl (Below.refl _ _) (fun h => by cases h)
            refine steps2_cons ?_ ?_
            · intro f w1 hb hd Q hK
              have e81 : f 81 = .agg #[.int .u64 r.a0, .int .u64 r.a1, .int .u64 r.a2, .int .u64 r.a3, .int .u64 r.a4] := hd.1 rfl
              have e82 : f 82 = .agg #[.int .u64 a.a0, .int .u64 a.a1, .int .u64 a.a2, .int .u64 a.a3, .int .u64 a.a4] := hd.2.1 rfl
              have e80 : f 80 = .bool true := hd.2.2.1 rfl
              clear hd
              simp only [e81, e82, e80] at hK
              have hK := Lib.hid hK
              go_wp2_with fail
              refine (csa.out _).mono ?_
              rintro e w2 ⟨rfl, hb2⟩
              go_wp2
              exact hK.out _ _ rfl hb2 (fun h => by cases h)
            refine steps2_cons ?_ ?_
            · intro f w1 hb hd Q hK
              have e83 : f 83 = .bool false := hd.1 rfl
              have e80 : f 80 = .bool true := hd.2.2.1 rfl
              clear hd
              simp only [e83, e80] at hK
              have hK := Lib.hid hK
              go_wp2
              exact hK.out _ _ rfl (Below.refl _ _) (fun h => by cases h)
            refine steps2_cons ?_ ?_
            · intro f w1 hb hd Q hK
              have e84 : f 84 = .bool false := hd.1 rfl
              clear hd
              simp only [e84] at hK
              have hK := Lib.hid hK
              obtain ⟨c0, c1, c2, c3, c4⟩ := blk5 (hR.below hb)
              go_wp2
              exact hK.out _ _ rfl (Below.refl _ _) (fun h => by cases h)
            refine steps2_cons ?_ ?_
            · intro f w1 hb hd Q hK
              have e84 : f 84 = .bool false := hd.1 rfl
              clear hd
              simp only [e84] at hK
              have hK := Lib.hid hK
              obtain ⟨c0, c1, c2, c3, c4⟩ := blk5 (hA.below hb)
              go_wp2
              exact hK.out _ _ rfl (Below.refl _ _) (fun h => by cases h)
            refine steps2_cons ?_ ?_
            · intro f w1 hb hd Q hK
              have e86 : f 86 = .agg #[.int .u64 a.a0, .int .u64 a.a1, .int .u64 a.a2, .int .u64 a.a3, .int .u64 a.a4] := hd.1 rfl
              have e84 : f 84 = .bool false := hd.2.1 rfl
              clear hd
              simp only [e86, e84] at hK
              have hK := Lib.hid hK
              go_wp2_with fail
              refine ((neg_E a) _).mono ?_
              rintro e w2 ⟨rfl, hb2⟩
              go_wp2
              exact hK.out _ _ rfl hb2 (fun h => by cases h)
            refine steps2_cons ?_ ?_
            · intro f w1 hb hd Q hK
              have e85 : f 85 = .agg #[.int .u64 r.a0, .int .u64 r.a1, .int .u64 r.a2, .int .u64 r.a3, .int .u64 r.a4] := hd.1 rfl
              have e87 : f 87 = .agg #[.int .u64 (Fe.subE ⟨0, 0, 0, 0, 0⟩ a).a0, .int .u64 (Fe.subE ⟨0, 0, 0, 0, 0⟩ a).a1, .int .u64 (Fe.subE ⟨0, 0, 0, 0, 0⟩ a).a2, .int .u64 (Fe.subE ⟨0, 0, 0, 0, 0⟩ a).a3, .int .u64 (Fe.subE ⟨0, 0, 0, 0, 0⟩ a).a4] := hd.2.1 rfl
              have e84 : f 84 = .bool false := hd.2.2.2.1 rfl
              clear hd
              simp only [e85, e87, e84] at hK
              have hK := Lib.hid hK
              go_wp2_with fail
              refine (csm.out _).mono ?_
              rintro e w2 ⟨rfl, hb2⟩
              go_wp2
              exact hK.out _ _ rfl hb2 (fun h => by cases h)
            refine steps2_cons ?_ ?_
            · intro f w1 hb hd Q hK
              have e84 : f 84 = .bool false := hd.1 rfl
              have e88 : f 88 = .bool true := hd.2.1 rfl
              have e80 : f 80 = .bool true := hd.2.2.1 rfl
              clear hd
              simp only [e84, e88, e80] at hK
              have hK := Lib.hid hK
              go_wp2
              exact hK.out _ _ rfl (Below.refl _ _) (fun h => by cases h)
            refine steps2_cons ?_ ?_
            · intro f w1 hb hd Q hK
              have e80 : f 80 = .bool true := hd.1 rfl
              have e89 : f 89 = .bool true := hd.2.1 rfl
              clear hd
              simp only [e80, e89] at hK
              have hK := Lib.hid hK
              go_wp2
              exact hK.out _ _ rfl (Below.refl _ _) (fun h => by cases h)
            refine steps2_cons ?_ ?_
            · intro f w1 hb hd Q hK
              have e90 : f 90 = .bool true := hd.1 rfl
              clear hd
              simp only [e90] at hK
              have hK := Lib.hid hK
              go_wp2
              exact hK.out _ _ rfl (Below.refl _ _) (fun h => by cases h)
            refine steps2_cons ?_ ?_
            · intro f w1 hb hd Q hK
              have e91 : f 91 = .bool true := hd.1 rfl
              clear hd
              simp only [e91] at hK
              have hK := Lib.hid hK
              go_wp2
              exact hK.out _ _ rfl (Below.refl _ _) (fun h => by cases h)
            refine steps2_cons ?_ ?_
            · intro f w1 hb hd Q hK
              have e91 : f 91 = .bool true := hd.1 rfl
              clear hd
              simp only [e91] at hK
              have hK := Lib.hid hK
              go_wp2
              exact hK.out _ _ rfl (Below.refl _ _) (fun h => by cases h)
            refine steps2_cons ?_ ?_
            · intro f w1 hb hd Q hK
              have e92 : f 92 = .bool false := hd.1 rfl
              have e93 : f 93 = .bool (!false) := hd.2.1 rfl
              have e91 : f 91 = .bool true := hd.2.2.1 rfl
              clear hd
              simp only [e92, e93, e91] at hK
              have hK := Lib.hid hK
              go_wp2
              exact hK.out _ _ rfl (Below.refl _ _) (fun h => by cases h)
            refine steps2_cons ?_ ?_
            · intro f w1 hb hd Q hK
              have e91 : f 91 = .bool true := hd.1 rfl
              have e94 : f 94 = .bool true := hd.2.1 rfl
              clear hd
              simp only [e91, e94] at hK
              have hK := Lib.hid hK
              go_wp2
              exact hK.out _ _ rfl (Below.refl _ _) (fun h => by cases h)
            refine steps2_cons ?_ ?_
            · intro f w1 hb hd Q hK
              have e95 : f 95 = .bool true := hd.1 rfl
              clear hd
              simp only [e95] at hK
              have hK := Lib.hid hK
              go_wp2
              exact hK.out _ _ rfl (Below.refl _ _) (fun h => by cases h)
            refine steps2_cons ?_ ?_
            · intro f w1 hb hd Q hK
              have e96 : f 96 = .bool true := hd.1 rfl
              clear hd
              simp only [e96] at hK
              have hK := Lib.hid hK
              go_wp2
              exact hK.out _ _ rfl (Below.refl _ _) (fun h => by cases h)
            refine steps2_cons ?_ ?_
            · intro f w1 hb hd Q hK
              have e97 : f 97 = .bool false := hd.1 rfl
              have e96 : f 96 = .bool true := hd.2.1 rfl
              clear hd
              simp only [e97, e96] at hK
              have hK := Lib.hid hK
              go_wp2
              exact hK.out _ _ rfl (Below.refl _ _) (fun h => by cases h)
            refine steps2_cons ?_ ?_
            · intro f w1 hb hd Q hK
              have e98 : f 98 = .bool true := hd.1 rfl
              have e96 : f 96 = .bool true := hd.2.1 rfl
              clear hd
              simp only [e98, e96] at hK
              have hK := Lib.hid hK
              go_wp2
              exact hK.out _ _ rfl (Below.refl _ _) (fun h => by cases h)
            refine steps2_cons ?_ ?_
            · intro f w1 hb hd Q hK
              have e99 : f 99 = .bool true := hd.1 rfl
              clear hd
              simp only [e99] at hK
              have hK := Lib.hid hK
              go_wp2
              exact hK.out _ _ rfl (Below.refl _ _) (fun h => by cases h)
            refine steps2_cons ?_ ?_
            · intro f w1 hb hd Q hK
              have e100 : f 100 = undef := hd.1 rfl
              have e99 : f 99 = .bool true := hd.2.1 rfl
              clear hd
              simp only [e100, e99] at hK
              have hK := Lib.hid hK
              go_wp2
              exact hK.out _ _ rfl (Below.refl _ _) (fun h => by cases h)
            refine steps2_cons ?_ ?_
            · intro f w1 hb hd Q hK
              have e99 : f 99 = .bool true := hd.1 rfl
              clear hd
              simp only [e99] at hK
              have hK := Lib.hid hK
              go_wp2
              exact hK.out _ _ rfl (Below.refl _ _) (fun h => by cases h)
            refine steps2_cons ?_ ?_
            · intro f w1 hb hd Q hK
              have e101 : f 101 = undef := hd.1 rfl
              have e102 : f 102 = undef := hd.2.1 rfl
              have e99 : f 99 = .bool true := hd.2.2.2.1 rfl
              clear hd
              simp only [e101, e102, e99] at hK
              have hK := Lib.hid hK
              go_wp2
              exact hK.out _ _ rfl (Below.refl _ _) (fun h => by cases h)
            refine steps2_cons ?_ ?_
            · intro f w1 hb hd Q hK
              have e103 : f 103 = undef := hd.1 rfl
              have e99 : f 99 = .bool true := hd.2.2.1 rfl
              clear hd
              simp only [e103, e99] at hK
              have hK := Lib.hid hK
              go_wp2
              exact hK.out _ _ rfl (Below.refl _ _) (fun h => by cases h)
            refine steps2_cons ?_ ?_
            · intro f w1 hb hd Q hK
              have e104 : f 104 = .tuple #[] := hd.1 rfl
              clear hd
              simp only [e104] at hK
              have hK := Lib.hid hK
              go_wp2
              exact hK.out _ _ rfl (Below.refl _ _) (fun h => by cases h)
            refine steps2_cons ?_ ?_
            · intro f w1 hb hd Q hK
              have e105 : f 105 = undef := hd.1 rfl
              have e104 : f 104 = .tuple #[] := hd.2.1 rfl
              clear hd
              simp only [e105, e104] at hK
              have hK := Lib.hid hK
              go_wp2
              exact hK.out _ _ rfl (Below.refl _ _) (fun h => by cases h)
            refine steps2_cons ?_ ?_
            · intro f w1 hb hd Q hK
              have e106 : f 106 = undef := hd.1 rfl
              have e104 : f 104 = .tuple #[] := hd.2.1 rfl
              clear hd
              simp only [e106, e104] at hK
              have hK := Lib.hid hK
              go_wp2
              exact hK.out _ _ rfl (Below.refl _ _) (fun h => by cases h)
            refine steps2_cons ?_ ?_
            · intro f w1 hb hd Q hK
              have e104 : f 104 = undef := hd.1 rfl
              have e107 : f 107 = undef := hd.2.1 rfl
              have e99 : f 99 = .bool true := hd.2.2.1 rfl
              clear hd
              simp only [e104, e107, e99] at hK
              have hK := Lib.hid hK
              go_wp2
              exact hK.out _ _ rfl (Below.refl _ _) (fun h => by cases h)
            refine steps2_cons ?_ ?_
            · intro f w1 hb hd Q hK
              have e99 : f 99 = .bool true := hd.1 rfl
              have e108 : f 108 = undef := hd.2.1 rfl
              have e96 : f 96 = .bool true := hd.2.2.1 rfl
              clear hd
              simp only [e99, e108, e96] at hK
              have hK := Lib.hid hK
              go_wp2
              exact hK.out _ _ rfl (Below.refl _ _) (fun h => by cases h)
            refine steps2_cons ?_ ?_
            · intro f w1 hb hd Q hK
              have e96 : f 96 = .bool true := hd.1 rfl
              have e109 : f 109 = .bool true := hd.2.1 rfl
              clear hd
              simp only [e96, e109] at hK
              have hK := Lib.hid hK
              go_wp2
              exact hK.out _ _ rfl (Below.refl _ _) (fun h => by cases h)
            refine steps2_cons ?_ ?_
            · intro f w1 hb hd Q hK
              have e110 : f 110 = .bool true := hd.1 rfl
              clear hd
              simp only [e110] at hK
              have hK := Lib.hid hK
              go_wp2
              exact hK.out _ _ rfl (Below.refl _ _) (fun h => by cases h)
            trivial
          · intro f13 y13 hb hf hne
            refine wpList_nil ?_
            have d4 : f13 4 = .bool true := hf 32 _ _ (by decide) rfl rfl
            clear hf hne
            simp only [d4]
            go_wp2
            go_returns
            exact ⟨rfl, hb0.trans (hb.mono hb0.size)⟩
        · have ctt := Lib.hid (css.out rfl)
          have coo := Lib.hid (cso.out rfl)
          clear css cso
          have csm := Lib.hid (csn.out rfl)
          clear csn
          refine wp_region_grow2 33 (fun k => Nat.beq k 4 || (Nat.ble 79 k && Nat.ble k 110)) _ [] (fun j x' q => (fo13FTL a r s).getD j (fun _ _ => True) x' q) (fun _ => false) (fun f => #[.agg #[.int .u64 a.a0, .int .u64 a.a1, .int .u64 a.a2, .int .u64 a.a3, .int .u64 a.a4], .agg #[.int .u64 v.a0, .int .u64 v.a1, .int .u64 v.a2, .int .u64 v.a3, .int .u64 v.a4], .pointer (some ⟨w.heap.size, 0, none⟩), .pointer (some ⟨w.heap.size + 1, 0, none⟩), f 4, .pointer (some ⟨g5, 0, none⟩), .pointer (some ⟨gr, 0, none⟩), .bool true, .pointer (some ⟨g8, 0, none⟩), .bool true, .pointer (some ⟨gz, 0, none⟩), .bool (!true), .bool true, .bool false, .agg #[.int .u64 a.a0, .int .u64 a.a1, .int .u64 a.a2, .int .u64 a.a3, .int .u64 a.a4], .agg #[.int .u64 v.a0, .int .u64 v.a1, .int .u64 v.a2, .int .u64 v.a3, .int .u64 v.a4], .slice (some ⟨gs, 0, none⟩) 2 2, .bool true, .bool false, f5 19, f5 20, f5 21, .agg #[.int .u64 (Fe.mulE (Fe.mulE a a) v).a0, .int .u64 (Fe.mulE (Fe.mulE a a) v).a1, .int .u64 (Fe.mulE (Fe.mulE a a) v).a2, .int .u64 (Fe.mulE (Fe.mulE a a) v).a3, .int .u64 (Fe.mulE (Fe.mulE a a) v).a4], .tuple #[.agg #[.int .u64 r.a0, .int .u64 r.a1, .int .u64 r.a2, .int .u64 r.a3, .int .u64 r.a4], .bool true], .agg #[.int .u64 (Fe.mulE (Fe.mulE a a) v).a0, .int .u64 (Fe.mulE (Fe.mulE a a) v).a1, .int .u64 (Fe.mulE (Fe.mulE a a) v).a2, .int .u64 (Fe.mulE (Fe.mulE a a) v).a3, .int .u64 (Fe.mulE (Fe.mulE a a) v).a4], .agg #[.int .u64 v.a0, .int .u64 v.a1, .int .u64 v.a2, .int .u64 v.a3, .int .u64 v.a4], .tuple #[.agg #[.int .u64 r.a0, .int .u64 r.a1, .int .u64 r.a2, .int .u64 r.a3, .int .u64 r.a4], .bool true], .agg #[.int .u64 r.a0, .int .u64 r.a1, .int .u64 r.a2, .int .u64 r.a3, .int .u64 r.a4], .bool true, f7 29, f7 30, f7 31, f7 32, f7 33, f7 34, f7 35, f7 36, f7 37, f7 38, f7 39, f7 40, f7 41, f7 42, f7 43, f7 44, f7 45, f7 46, f7 47, f7 48, f7 49, f7 50, f7 51, f7 52, f7 53, f7 54, f7 55, f7 56, .bool false, .agg #[.int .u64 v.a0, .int .u64 v.a1, .int .u64 v.a2, .int .u64 v.a3, .int .u64 v.a4], .bool false, .bool false, .agg #[.int .u64 a.a0, .int .u64 a.a1, .int .u64 a.a2, .int .u64 a.a3, .int .u64 a.a4], .bool false, .bool false, undef, u65, u66, u67, u68, u69, u70, .tuple #[.agg #[.int .u64 z.a0, .int .u64 z.a1, .int .u64 z.a2, .int .u64 z.a3, .int .u64 z.a4], .bool (!true)], .agg #[.int .u64 a.a0, .int .u64 a.a1, .int .u64 a.a2, .int .u64 a.a3, .int .u64 a.a4], .agg #[.int .u64 a.a0, .int .u64 a.a1, .int .u64 a.a2, .int .u64 a.a3, .int .u64 a.a4], .agg #[.int .u64 (Fe.addE a a).a0, .int .u64 (Fe.addE a a).a1, .int .u64 (Fe.addE a a).a2, .int .u64 (Fe.addE a a).a3, .int .u64 (Fe.addE a a).a4], .agg #[.int .u64 1, .int .u64 0, .int .u64 0, .int .u64 0, .int .u64 0], .tuple #[.agg #[.int .u64 z.a0, .int .u64 z.a1, .int .u64 z.a2, .int .u64 z.a3, .int .u64 z.a4], .bool (!true)], .agg #[.int .u64 z.a0, .int .u64 z.a1, .int .u64 z.a2, .int .u64 z.a3, .int .u64 z.a4], .bool (!true), f 79, f 80, f 81, f 82, f 83, f 84, f 85, f 86, f 87, f 88, f 89, f 90, f 91, f 92, f 93, f 94, f 95, f 96, f 97, f 98, f 99, f 100, f 101, f 102, f 103, f 104, f 105, f 106, f 107, f 108, f 109, f 110]) (fun f => rfl) (by kernel_rfl) (by kernel_rfl) (by kernel_rfl) (by kernel_rfl) (by kernel_rfl) (fo13FTS _ _ _) (fun _ _ _ h => by cases h) ?_ ?_
          · refine steps2_cons ?_ ?_
            · intro f w1 hb hd Q hK
              clear hd
              have hK := Lib.hid hK
              go_wp2
              exact hK.out _ _ rfl (Below.refl _ _) (fun h => by cases h)
            refine steps2_cons ?_ ?_
            · intro f w1 hb hd Q hK
              have e79 : f 79 = .bool true := hd.1 rfl
              clear hd
              simp only [e79] at hK
              have hK := Lib.hid hK
              go_wp2
              exact hK.out _ _ rfl (Below.refl _ _) (fun h => by cases h)
            refine steps2_cons ?_ ?_
            · intro f w1 hb hd Q hK
              have e80 : f 80 = .bool true := hd.1 rfl
              clear hd
              simp only [e80] at hK
              have hK := Lib.hid hK
              obtain ⟨c0, c1, c2, c3, c4⟩ := blk5 (hR.below hb)
              go_wp2
              exact hK.out _ _ rfl (Below.refl _ _) (fun h => by cases h)
            refine steps2_cons ?_ ?_
            · intro f w1 hb hd Q hK
              have e80 : f 80 = .bool true := hd.1 rfl
              clear hd
              simp only [e80] at hK
              have hK := Lib.hid hK
              obtain ⟨c0, c1, c2, c3, c4⟩ := blk5 (hA.below hb)
              go_wp2
              exact hK.out _ _ rfl (Below.refl _ _) (fun h => by cases h)
            refine steps2_cons ?_ ?_
            · intro f w1 hb hd Q hK
              have e81 : f 81 = .agg #[.int .u64 r.a0, .int .u64 r.a1, .int .u64 r.a2, .int .u64 r.a3, .int .u64 r.a4] := hd.1 rfl
              have e82 : f 82 = .agg #[.int .u64 a.a0, .int .u64 a.a1, .int .u64 a.a2, .int .u64 a.a3, .int .u64 a.a4] := hd.2.1 rfl
              have e80 : f 80 = .bool true := hd.2.2.1 rfl
              clear hd
              simp only [e81, e82, e80] at hK
              have hK := Lib.hid hK
              go_wp2_with fail
              refine (csa.out _).mono ?_
              rintro e w2 ⟨rfl, hb2⟩
              go_wp2
              exact hK.out _ _ rfl hb2 (fun h => by cases h)
            refine steps2_cons ?_ ?_
            · intro f w1 hb hd Q hK
              have e83 : f 83 = .bool false := hd.1 rfl
              have e80 : f 80 = .bool true := hd.2.2.1 rfl
              clear hd
              simp only [e83, e80] at hK
              have hK := Lib.hid hK
              go_wp2
              exact hK.out _ _ rfl (Below.refl _ _) (fun h => by cases h)
            refine steps2_cons ?_ ?_
            · intro f w1 hb hd Q hK
              have e84 : f 84 = .bool false := hd.1 rfl
              clear hd
              simp only [e84] at hK
              have hK := Lib.hid hK
              obtain ⟨c0, c1, c2, c3, c4⟩ := blk5 (hR.below hb)
              go_wp2
              exact hK.out _ _ rfl (Below.refl _ _) (fun h => by cases h)
            refine steps2_cons ?_ ?_
            · intro f w1 hb hd Q hK
              have e84 : f 84 = .bool false := hd.1 rfl
              clear hd
              simp only [e84] at hK
              have hK := Lib.hid hK
              obtain ⟨c0, c1, c2, c3, c4⟩ := blk5 (hA.below hb)
              go_wp2
              exact hK.out _ _ rfl (Below.refl _ _) (fun h => by cases h)
            refine steps2_cons ?_ ?_
            · intro f w1 hb hd Q hK
              have e86 : f 86 = .agg #[.int .u64 a.a0, .int .u64 a.a1, .int .u64 a.a2, .int .u64 a.a3, .int .u64 a.a4] := hd.1 rfl
              have e84 : f 84 = .bool false := hd.2.1 rfl
              clear hd
              simp only [e86, e84] at hK
              have hK := Lib.hid hK
              go_wp2_with fail
              refine ((neg_E a) _).mono ?_
              rintro e w2 ⟨rfl, hb2⟩
              go_wp2
              exact hK.out _ _ rfl hb2 (fun h => by cases h)
            refine steps2_cons ?_ ?_
            · intro f w1 hb hd Q hK
              have e85 : f 85 = .agg #[.int .u64 r.a0, .int .u64 r.a1, .int .u64 r.a2, .int .u64 r.a3, .int .u64 r.a4] := hd.1 rfl
              have e87 : f 87 = .agg #[.int .u64 (Fe.subE ⟨0, 0, 0, 0, 0⟩ a).a0, .int .u64 (Fe.subE ⟨0, 0, 0, 0, 0⟩ a).a1, .int .u64 (Fe.subE ⟨0, 0, 0, 0, 0⟩ a).a2, .int .u64 (Fe.subE ⟨0, 0, 0, 0, 0⟩ a).a3, .int .u64 (Fe.subE ⟨0, 0, 0, 0, 0⟩ a).a4] := hd.2.1 rfl
              have e84 : f 84 = .bool false := hd.2.2.2.1 rfl
              clear hd
              simp only [e85, e87, e84] at hK
              have hK := Lib.hid hK
              go_wp2_with fail
              refine (csm.out _).mono ?_
              rintro e w2 ⟨rfl, hb2⟩
              go_wp2
              exact hK.out _ _ rfl hb2 (fun h => by cases h)
            refine steps2_cons ?_ ?_
            · intro f w1 hb hd Q hK
              have e84 : f 84 = .bool false := hd.1 rfl
              have e88 : f 88 = .bool true := hd.2.1 rfl
              have e80 : f 80 = .bool true := hd.2.2.1 rfl
              clear hd
              simp only [e84, e88, e80] at hK
              have hK := Lib.hid hK
              go_wp2
              exact hK.out _ _ rfl (Below.refl _ _) (fun h => by cases h)
            refine steps2_cons ?_ ?_
            · intro f w1 hb hd Q hK
              have e80 : f 80 = .bool true := hd.1 rfl
              have e89 : f 89 = .bool true := hd.2.1 rfl
              clear hd
              simp only [e80, e89] at hK
              have hK := Lib.hid hK
              go_wp2
              exact hK.out _ _ rfl (Below.refl _ _) (fun h => by cases h)
            refine steps2_cons ?_ ?_
            · intro f w1 hb hd Q hK
              have e90 : f 90 = .bool true := hd.1 rfl
              clear hd
              simp only [e90] at hK
              have hK := Lib.hid hK
              go_wp2
              exact hK.out _ _ rfl (Below.refl _ _) (fun h => by cases h)
            refine steps2_cons ?_ ?_
            · intro f w1 hb hd Q hK
              have e91 : f 91 = .bool true := hd.1 rfl
              clear hd
              simp only [e91] at hK
              have hK := Lib.hid hK
              go_wp2
              exact hK.out _ _ rfl (Below.refl _ _) (fun h => by cases h)
            refine steps2_cons ?_ ?_
            · intro f w1 hb hd Q hK
              have e91 : f 91 = .bool true := hd.1 rfl
              clear hd
              simp only [e91] at hK
              have hK := Lib.hid hK
              go_wp2
              exact hK.out _ _ rfl (Below.refl _ _) (fun h => by cases h)
            refine steps2_cons ?_ ?_
            · intro f w1 hb hd Q hK
              have e92 : f 92 = .bool true := hd.1 rfl
              have e93 : f 93 = .bool (!true) := hd.2.1 rfl
              have e91 : f 91 = .bool true := hd.2.2.1 rfl
              clear hd
              simp only [e92, e93, e91] at hK
              have hK := Lib.hid hK
              go_wp2
              exact hK.out _ _ rfl (Below.refl _ _) (fun h => by cases h)
            refine steps2_cons ?_ ?_
            · intro f w1 hb hd Q hK
              have e91 : f 91 = .bool true := hd.1 rfl
              have e94 : f 94 = .bool true := hd.2.1 rfl
              clear hd
              simp only [e91, e94] at hK
              have hK := Lib.hid hK
              go_wp2
              exact hK.out _ _ rfl (Below.refl _ _) (fun h => by cases h)
            refine steps2_cons ?_ ?_
            · intro f w1 hb hd Q hK
              have e95 : f 95 = .bool true := hd.1 rfl
              clear hd
              simp only [e95] at hK
              have hK := Lib.hid hK
              go_wp2
              exact hK.out _ _ rfl (Below.refl _ _) (fun h => by cases h)
            refine steps2_cons ?_ ?_
            · intro f w1 hb hd Q hK
              have e96 : f 96 = .bool true := hd.1 rfl
              clear hd
              simp only [e96] at hK
              have hK := Lib.hid hK
              go_wp2
              exact hK.out _ _ rfl (Below.refl _ _) (fun h => by cases h)
            refine steps2_cons ?_ ?_
            · intro f w1 hb hd Q hK
              have e97 : f 97 = .bool true := hd.1 rfl
              have e96 : f 96 = .bool true := hd.2.1 rfl
              clear hd
              simp only [e97, e96] at hK
              have hK := Lib.hid hK
              go_wp2
              exact hK.out _ _ rfl (Below.refl _ _) (fun h => by cases h)
            refine steps2_cons ?_ ?_
            · intro f w1 hb hd Q hK
              have e98 : f 98 = .bool false := hd.1 rfl
              have e96 : f 96 = .bool true := hd.2.1 rfl
              clear hd
              simp only [e98, e96] at hK
              have hK := Lib.hid hK
              go_wp2
              exact hK.out _ _ rfl (Below.refl _ _) (fun h => by cases h)
            refine steps2_cons ?_ ?_
            · intro f w1 hb hd Q hK
              have e99 : f 99 = .bool false := hd.1 rfl
              clear hd
              simp only [e99] at hK
              have hK := Lib.hid hK
              obtain ⟨c0, c1, c2, c3, c4⟩ := blk5 (hS.below hb)
              go_wp2
              exact hK.out _ _ rfl (Below.refl _ _) (fun h => by cases h)
            refine steps2_cons ?_ ?_
            · intro f w1 hb hd Q hK
              have e100 : f 100 = .agg #[.int .u64 s.a0, .int .u64 s.a1, .int .u64 s.a2, .int .u64 s.a3, .int .u64 s.a4] := hd.1 rfl
              have e99 : f 99 = .bool false := hd.2.1 rfl
              clear hd
              simp only [e100, e99] at hK
              have hK := Lib.hid hK
              go_wp2_with fail
              refine ((square_E s hws) _).mono ?_
              rintro e w2 ⟨rfl, hb2⟩
              go_wp2
              exact hK.out _ _ rfl hb2 (fun h => by cases h)
            refine steps2_cons ?_ ?_
            · intro f w1 hb hd Q hK
              have e99 : f 99 = .bool false := hd.1 rfl
              clear hd
              simp only [e99] at hK
              have hK := Lib.hid hK
              obtain ⟨c0, c1, c2, c3, c4⟩ := blk5 (hA.below hb)
              go_wp2
              exact hK.out _ _ rfl (Below.refl _ _) (fun h => by cases h)
            refine steps2_cons ?_ ?_
            · intro f w1 hb hd Q hK
              have e101 : f 101 = .agg #[.int .u64 (Fe.mulE s s).a0, .int .u64 (Fe.mulE s s).a1, .int .u64 (Fe.mulE s s).a2, .int .u64 (Fe.mulE s s).a3, .int .u64 (Fe.mulE s s).a4] := hd.1 rfl
              have e102 : f 102 = .agg #[.int .u64 a.a0, .int .u64 a.a1, .int .u64 a.a2, .int .u64 a.a3, .int .u64 a.a4] := hd.2.1 rfl
              have e99 : f 99 = .bool false := hd.2.2.2.1 rfl
              clear hd
              simp only [e101, e102, e99] at hK
              have hK := Lib.hid hK
              go_wp2_with fail
              refine (ctt.out _).mono ?_
              rintro e w2 ⟨rfl, hb2⟩
              go_wp2
              exact hK.out _ _ rfl hb2 (fun h => by cases h)
            refine steps2_cons ?_ ?_
            · intro f w1 hb hd Q hK
              have e103 : f 103 = .bool true := hd.1 rfl
              have e99 : f 99 = .bool false := hd.2.2.1 rfl
              clear hd
              simp only [e103, e99] at hK
              have hK := Lib.hid hK
              go_wp2
              exact hK.out _ _ rfl (Below.refl _ _) (fun h => by cases h)
            refine steps2_cons ?_ ?_
            · intro f w1 hb hd Q hK
              have e104 : f 104 = .bool true := hd.1 rfl
              clear hd
              simp only [e104] at hK
              have hK := Lib.hid hK
              obtain ⟨c0, c1, c2, c3, c4⟩ := blk5 (hS.below hb)
              go_wp2
              exact hK.out _ _ rfl (Below.refl _ _) (fun h => by cases h)
            refine steps2_cons ?_ ?_
            · intro f w1 hb hd Q hK
              have e105 : f 105 = .agg #[.int .u64 s.a0, .int .u64 s.a1, .int .u64 s.a2, .int .u64 s.a3, .int .u64 s.a4] := hd.1 rfl
              have e104 : f 104 = .bool true := hd.2.1 rfl
              clear hd
              simp only [e105, e104] at hK
              have hK := Lib.hid hK
              go_wp2_with fail
              refine (coo.out _).mono ?_
              rintro e w2 ⟨rfl, hb2⟩
              go_wp2
              exact hK.out _ _ rfl hb2 (fun h => by cases h)
            refine steps2_cons ?_ ?_
            · intro f w1 hb hd Q hK
              have e106 : f 106 = .bool false := hd.1 rfl
              have e104 : f 104 = .bool true := hd.2.1 rfl
              clear hd
              simp only [e106, e104] at hK
              have hK := Lib.hid hK
              go_wp2
              exact hK.out _ _ rfl (Below.refl _ _) (fun h => by cases h)
            refine steps2_cons ?_ ?_
            · intro f w1 hb hd Q hK
              have e104 : f 104 = .bool true := hd.1 rfl
              have e107 : f 107 = .bool true := hd.2.1 rfl
              have e99 : f 99 = .bool false := hd.2.2.1 rfl
              clear hd
              simp only [e104, e107, e99] at hK
              have hK := Lib.hid hK
              go_wp2
              exact hK.out _ _ rfl (Below.refl _ _) (fun h => by cases h)
            refine steps2_cons ?_ ?_
            · intro f w1 hb hd Q hK
              have e99 : f 99 = .bool false := hd.1 rfl
              have e108 : f 108 = .bool true := hd.2.1 rfl
              have e96 : f 96 = .bool true := hd.2.2.1 rfl
              clear hd
              simp only [e99, e108, e96] at hK
              have hK := Lib.hid hK
              go_wp2
              exact hK.out _ _ rfl (Below.refl _ _) (fun h => by cases h)
            refine steps2_cons ?_ ?_
            · intro f w1 hb hd Q hK
              have e96 : f 96 = .bool true := hd.1 rfl
              have e109 : f 109 = .bool true := hd.2.1 rfl
              clear hd
              simp only [e96, e109] at hK
              have hK := Lib.hid hK
              go_wp2
              exact hK.out _ _ rfl (Below.refl _ _) (fun h => by cases h)
            refine steps2_cons ?_ ?_
            · intro f w1 hb hd Q hK
              have e110 : f 110 = .bool true := hd.1 rfl
              clear hd
              simp only [e110] at hK
              have hK := Lib.hid hK
              go_wp2
              exact hK.out _ _ rfl (Below.refl _ _) (fun h => by cases h)
            trivial
          · intro f13 y13 hb hf hne
            refine wpList_nil ?_
            have d4 : f13 4 = .bool true := hf 32 _ _ (by decide) rfl rfl
            clear hf hne
            simp only [d4]
            go_wp2
            go_returns
            exact ⟨rfl, hb0.trans (hb.mono hb0.size)⟩
        · clear css cso
          refine wp_region_grow2 33 (fun k => Nat.beq k 4 || (Nat.ble 79 k && Nat.ble k 110)) _ [] (fun j x' q => (fo13TFL a r).getD j (fun _ _ => True) x' q) (fun _ => false) (fun f => #[.agg #[.int .u64 a.a0, .int .u64 a.a1, .int .u64 a.a2, .int .u64 a.a3, .int .u64 a.a4], .agg #[.int .u64 v.a0, .int .u64 v.a1, .int .u64 v.a2, .int .u64 v.a3, .int .u64 v.a4], .pointer (some ⟨w.heap.size, 0, none⟩), .pointer (some ⟨w.heap.size + 1, 0, none⟩), f 4, .pointer (some ⟨g5, 0, none⟩), .pointer (some ⟨gr, 0, none⟩), .bool true, .pointer (some ⟨g8, 0, none⟩), .bool false, .pointer (some ⟨gz, 0, none⟩), .bool (!false), .bool true, .bool false, .agg #[.int .u64 a.a0, .int .u64 a.a1, .int .u64 a.a2, .int .u64 a.a3, .int .u64 a.a4], .agg #[.int .u64 v.a0, .int .u64 v.a1, .int .u64 v.a2, .int .u64 v.a3, .int .u64 v.a4], .slice (some ⟨gs, 0, none⟩) 2 2, .bool true, .bool false, f5 19, f5 20, f5 21, .agg #[.int .u64 (Fe.mulE (Fe.mulE a a) v).a0, .int .u64 (Fe.mulE (Fe.mulE a a) v).a1, .int .u64 (Fe.mulE (Fe.mulE a a) v).a2, .int .u64 (Fe.mulE (Fe.mulE a a) v).a3, .int .u64 (Fe.mulE (Fe.mulE a a) v).a4], .tuple #[.agg #[.int .u64 r.a0, .int .u64 r.a1, .int .u64 r.a2, .int .u64 r.a3, .int .u64 r.a4], .bool true], .agg #[.int .u64 (Fe.mulE (Fe.mulE a a) v).a0, .int .u64 (Fe.mulE (Fe.mulE a a) v).a1, .int .u64 (Fe.mulE (Fe.mulE a a) v).a2, .int .u64 (Fe.mulE (Fe.mulE a a) v).a3, .int .u64 (Fe.mulE (Fe.mulE a a) v).a4], .agg #[.int .u64 v.a0, .int .u64 v.a1, .int .u64 v.a2, .int .u64 v.a3, .int .u64 v.a4], .tuple #[.agg #[.int .u64 r.a0, .int .u64 r.a1, .int .u64 r.a2, .int .u64 r.a3, .int .u64 r.a4], .bool true], .agg #[.int .u64 r.a0, .int .u64 r.a1, .int .u64 r.a2, .int .u64 r.a3, .int .u64 r.a4], .bool true, f7 29, f7 30, f7 31, f7 32, f7 33, f7 34, f7 35, f7 36, f7 37, f7 38, f7 39, f7 40, f7 41, f7 42, f7 43, f7 44, f7 45, f7 46, f7 47, f7 48, f7 49, f7 50, f7 51, f7 52, f7 53, f7 54, f7 55, f7 56, .bool false, .agg #[.int .u64 v.a0, .int .u64 v.a1, .int .u64 v.a2, .int .u64 v.a3, .int .u64 v.a4], .bool false, .bool false, .agg #[.int .u64 a.a0, .int .u64 a.a1, .int .u64 a.a2, .int .u64 a.a3, .int .u64 a.a4], .bool false, .bool false, undef, u65, u66, u67, u68, u69, u70, .tuple #[.agg #[.int .u64 z.a0, .int .u64 z.a1, .int .u64 z.a2, .int .u64 z.a3, .int .u64 z.a4], .bool (!false)], .agg #[.int .u64 a.a0, .int .u64 a.a1, .int .u64 a.a2, .int .u64 a.a3, .int .u64 a.a4], .agg #[.int .u64 a.a0, .int .u64 a.a1, .int .u64 a.a2, .int .u64 a.a3, .int .u64 a.a4], .agg #[.int .u64 (Fe.addE a a).a0, .int .u64 (Fe.addE a a).a1, .int .u64 (Fe.addE a a).a2, .int .u64 (Fe.addE a a).a3, .int .u64 (Fe.addE a a).a4], .agg #[.int .u64 1, .int .u64 0, .int .u64 0, .int .u64 0, .int .u64 0], .tuple #[.agg #[.int .u64 z.a0, .int .u64 z.a1, .int .u64 z.a2, .int .u64 z.a3, .int .u64 z.a4], .bool (!false)], .agg #[.int .u64 z.a0, .int .u64 z.a1, .int .u64 z.a2, .int .u64 z.a3, .int .u64 z.a4], .bool (!false), f 79, f 80, f 81, f 82, f 83, f 84, f 85, f 86, f 87, f 88, f 89, f 90, f 91, f 92, f 93, f 94, f 95, f 96, f 97, f 98, f 99, f 100, f 101, f 102, f 103, f 104, f 105, f 106, f 107, f 108, f 109, f 110]) (fun f => rfl) (by kernel_rfl) (by kernel_rfl) (by kernel_rfl) (by kernel_rfl) (by kernel_rfl) (fo13TFS _ _) (fun _ _ _ h => by cases h) ?_ ?_
          · refine steps2_cons ?_ ?_
            · intro f w1 hb hd Q hK
              clear hd
              have hK := Lib.hid hK
              go_wp2
              exact hK.out _ _ rfl (Below.refl _ _) (fun h => by cases h)
            refine steps2_cons ?_ ?_
            · intro f w1 hb hd Q hK
              have e79 : f 79 = .bool true := hd.1 rfl
              clear hd
              simp only [e79] at hK
              have hK := Lib.hid hK
              go_wp2
              exact hK.out _ _ rfl (Below.refl _ _) (fun h => by cases h)
            refine steps2_cons ?_ ?_
            · intro f w1 hb hd Q hK
              have e80 : f 80 = .bool true := hd.1 rfl
              clear hd
              simp only [e80] at hK
              have hK := Lib.hid hK
              obtain ⟨c0, c1, c2, c3, c4⟩ := blk5 (hR.below hb)
              go_wp2
              exact hK.out _ _ rfl (Below.refl _ _) (fun h => by cases h)
            refine steps2_cons ?_ ?_
            · intro f w1 hb hd Q hK
              have e80 : f 80 = .bool true := hd.1 rfl
              clear hd
              simp only [e80] at hK
              have hK := Lib.hid hK
              obtain ⟨c0, c1, c2, c3, c4⟩ := blk5 (hA.below hb)
              go_wp2
              exact hK.out _ _ rfl (Below.refl _ _) (fun h => by cases h)
            refine steps2_cons ?_ ?_
            · intro f w1 hb hd Q hK
              have e81 : f 81 = .agg #[.int .u64 r.a0, .int .u64 r.a1, .int .u64 r.a2, .int .u64 r.a3, .int .u64 r.a4] := hd.1 rfl
              have e82 : f 82 = .agg #[.int .u64 a.a0, .int .u64 a.a1, .int .u64 a.a2, .int .u64 a.a3, .int .u64 a.a4] := hd.2.1 rfl
              have e80 : f 80 = .bool true := hd.2.2.1 rfl
              clear hd
              simp only [e81, e82, e80] at hK
              have hK := Lib.hid hK
              go_wp2_with fail
              refine (csa.out _).mono ?_
              rintro e w2 ⟨rfl, hb2⟩
              go_wp2
              exact hK.out _ _ rfl hb2 (fun h => by cases h)
            refine steps2_cons ?_ ?_
            · intro f w1 hb hd Q hK
              have e83 : f 83 = .bool true := hd.1 rfl
              have e80 : f 80 = .bool true := hd.2.2.1 rfl
              clear hd
              simp only [e83, e80] at hK
              have hK := Lib.hid hK
              go_wp2
              exact hK.out _ _ rfl (Below.refl _ _) (fun h => by cases h)
            refine steps2_cons ?_ ?_
            · intro f w1 hb hd Q hK
              have e84 : f 84 = .bool true := hd.1 rfl
              clear hd
              simp only [e84] at hK
              have hK := Lib.hid hK
              go_wp2
              exact hK.out _ _ rfl (Below.refl _ _) (fun h => by cases h)
            refine steps2_cons ?_ ?_
            · intro f w1 hb hd Q hK
              have e84 : f 84 = .bool true := hd.1 rfl
              clear hd
              simp only [e84] at hK
              have hK := Lib.hid hK
              go_wp2
              exact hK.out _ _ rfl (Below.refl _ _) (fun h => by cases h)
            refine steps2_cons ?_ ?_
            · intro f w1 hb hd Q hK
              have e86 : f 86 = undef := hd.1 rfl
              have e84 : f 84 = .bool true := hd.2.1 rfl
              clear hd
              simp only [e86, e84] at hK
              have hK := Lib.hid hK
              go_wp2
              exact hK.out _ _ rfl (Below.refl _ _) (fun h => by cases h)
            refine steps2_cons ?_ ?_
            · intro f w1 hb hd Q hK
              have e85 : f 85 = undef := hd.1 rfl
              have e87 : f 87 = undef := hd.2.1 rfl
              have e84 : f 84 = .bool true := hd.2.2.2.1 rfl
              clear hd
              simp only [e85, e87, e84] at hK
              have hK := Lib.hid hK
              go_wp2
              exact hK.out _ _ rfl (Below.refl _ _) (fun h => by cases h)
            refine steps2_cons ?_ ?_
            · intro f w1 hb hd Q hK
              have e84 : f 84 = .bool true := hd.1 rfl
              have e88 : f 88 = undef := hd.2.1 rfl
              have e80 : f 80 = .bool true := hd.2.2.1 rfl
              clear hd
              simp only [e84, e88, e80] at hK
              have hK := Lib.hid hK
              go_wp2
              exact hK.out _ _ rfl (Below.refl _ _) (fun h => by cases h)
            refine steps2_cons ?_ ?_
            · intro f w1 hb hd Q hK
              have e80 : f 80 = .bool true := hd.1 rfl
              have e89 : f 89 = .bool true := hd.2.1 rfl
              clear hd
              simp only [e80, e89] at hK
              have hK := Lib.hid hK
              go_wp2
              exact hK.out _ _ rfl (Below.refl _ _) (fun h => by cases h)
            refine steps2_cons ?_ ?_
            · intro f w1 hb hd Q hK
              have e90 : f 90 = .bool true := hd.1 rfl
              clear hd
              simp only [e90] at hK
              have hK := Lib.hid hK
              go_wp2
              exact hK.out _ _ rfl (Below.refl _ _) (fun h => by cases h)
            refine steps2_cons ?_ ?_
            · intro f w1 hb hd Q hK
              have e91 : f 91 = .bool true := hd.1 rfl
              clear hd
              simp only [e91] at hK
              have hK := Lib.hid hK
              go_wp2
              exact hK.out _ _ rfl (Below.refl _ _) (fun h => by cases h)
            refine steps2_cons ?_ ?_
            · intro f w1 hb hd Q hK
              have e91 : f 91 = .bool true := hd.1 rfl
              clear hd
              simp only [e91] at hK
              have hK := Lib.hid hK
              go_wp2
              exact hK.out _ _ rfl (Below.refl _ _) (fun h => by cases h)
            refine steps2_cons ?_ ?_
            · intro f w1 hb hd Q hK
              have e92 : f 92 = .bool false := hd.1 rfl
              have e93 : f 93 = .bool (!false) := hd.2.1 rfl
              have e91 : f 91 = .bool true := hd.2.2.1 rfl
              clear hd
              simp only [e92, e93, e91] at hK
              have hK := Lib.hid hK
              go_wp2
              exact hK.out _ _ rfl (Below.refl _ _) (fun h => by cases h)
            refine steps2_cons ?_ ?_
            · intro f w1 hb hd Q hK
              have e91 : f 91 = .bool true := hd.1 rfl
              have e94 : f 94 = .bool true := hd.2.1 rfl
              clear hd
              simp only [e91, e94] at hK
              have hK := Lib.hid hK
              go_wp2
              exact hK.out _ _ rfl (Below.refl _ _) (fun h => by cases h)
            refine steps2_cons ?_ ?_
            · intro f w1 hb hd Q hK
              have e95 : f 95 = .bool true := hd.1 rfl
              clear hd
              simp only [e95] at hK
              have hK := Lib.hid hK
              go_wp2
              exact hK.out _ _ rfl (Below.refl _ _) (fun h => by cases h)
            refine steps2_cons ?_ ?_
            · intro f w1 hb hd Q hK
              have e96 : f 96 = .bool true := hd.1 rfl
              clear hd
              simp only [e96] at hK
              have hK := Lib.hid hK
              go_wp2
              exact hK.out _ _ rfl (Below.refl _ _) (fun h => by cases h)
            refine steps2_cons ?_ ?_
            · intro f w1 hb hd Q hK
              have e97 : f 97 = .bool false := hd.1 rfl
              have e96 : f 96 = .bool true := hd.2.1 rfl
              clear hd
              simp only [e97, e96] at hK
              have hK := Lib.hid hK
              go_wp2
              exact hK.out _ _ rfl (Below.refl _ _) (fun h => by cases h)
            refine steps2_cons ?_ ?_
            · intro f w1 hb hd Q hK
              have e98 : f 98 = .bool true := hd.1 rfl
              have e96 : f 96 = .bool true := hd.2.1 rfl
              clear hd
              simp only [e98, e96] at hK
              have hK := Lib.hid hK
              go_wp2
              exact hK.out _ _ rfl (Below.refl _ _) (fun h => by cases h)
            refine steps2_cons ?_ ?_
            · intro f w1 hb hd Q hK
              have e99 : f 99 = .bool true := hd.1 rfl
              clear hd
              simp only [e99] at hK
              have hK := Lib.hid hK
              go_wp2
              exact hK.out _ _ rfl (Below.refl _ _) (fun h => by cases h)
            refine steps2_cons ?_ ?_
            · intro f w1 hb hd Q hK
              have e100 : f 100 = undef := hd.1 rfl
              have e99 : f 99 = .bool true := hd.2.1 rfl
              clear hd
              simp only [e100, e99] at hK
              have hK := Lib.hid hK
              go_wp2
              exact hK.out _ _ rfl (Below.refl _ _) (fun h => by cases h)
            refine steps2_cons ?_ ?_
            · intro f w1 hb hd Q hK
              have e99 : f 99 = .bool true := hd.1 rfl
              clear hd
              simp only [e99] at hK
              have hK := Lib.hid hK
              go_wp2
              exact hK.out _ _ rfl (Below.refl _ _) (fun h => by cases h)
            refine steps2_cons ?_ ?_
            · intro f w1 hb hd Q hK
              have e101 : f 101 = undef := hd.1 rfl
              have e102 : f 102 = undef := hd.2.1 rfl
              have e99 : f 99 = .bool true := hd.2.2.2.1 rfl
              clear hd
              simp only [e101, e102, e99] at hK
              have hK := Lib.hid hK
              go_wp2
              exact hK.out _ _ rfl (Below.refl _ _) (fun h => by cases h)
            refine steps2_cons ?_ ?_
            · intro f w1 hb hd Q hK
              have e103 : f 103 = undef := hd.1 rfl
              have e99 : f 99 = .bool true := hd.2.2.1 rfl
              clear hd
              simp only [e103, e99] at hK
              have hK := Lib.hid hK
              go_wp2
              exact hK.out _ _ rfl (Below.refl _ _) (fun h => by cases h)
            refine steps2_cons ?_ ?_
            · intro f w1 hb hd Q hK
              have e104 : f 104 = .tuple #[] := hd.1 rfl
              clear hd
              simp only [e104] at hK
              have hK := Lib.hid hK
              go_wp2
              exact hK.out _ _ rfl (Below.refl _ _) (fun h => by cases h)
            refine steps2_cons ?_ ?_
            · intro f w1 hb hd Q hK
              have e105 : f 105 = undef := hd.1 rfl
              have e104 : f 104 = .tuple #[] := hd.2.1 rfl
              clear hd
              simp only [e105, e104] at hK
              have hK := Lib.hid hK
              go_wp2
              exact hK.out _ _ rfl (Below.refl _ _) (fun h => by cases h)
            refine steps2_cons ?_ ?_
            · intro f w1 hb hd Q hK
              have e106 : f 106 = undef := hd.1 rfl
              have e104 : f 104 = .tuple #[] := hd.2.1 rfl
              clear hd
              simp only [e106, e104] at hK
              have hK := Lib.hid hK
              go_wp2
              exact hK.out _ _ rfl (Below.refl _ _) (fun h => by cases h)
            refine steps2_cons ?_ ?_
            · intro f w1 hb hd Q hK
              have e104 : f 104 = undef := hd.1 rfl
              have e107 : f 107 = undef := hd.2.1 rfl
              have e99 : f 99 = .bool true := hd.2.2.1 rfl
              clear hd
              simp only [e104, e107, e99] at hK
              have hK := Lib.hid hK
              go_wp2
              exact hK.out _ _ rfl (Below.refl _ _) (fun h => by cases h)
            refine steps2_cons ?_ ?_
            · intro f w1 hb hd Q hK
              have e99 : f 99 = .bool true := hd.1 rfl
              have e108 : f 108 = undef := hd.2.1 rfl
              have e96 : f 96 = .bool true := hd.2.2.1 rfl
              clear hd
              simp only [e99, e108, e96] at hK
              have hK := Lib.hid hK
              go_wp2
              exact hK.out _ _ rfl (Below.refl _ _) (fun h => by cases h)
            refine steps2_cons ?_ ?_
            · intro f w1 hb hd Q hK
              have e96 : f 96 = .bool true := hd.1 rfl
              have e109 : f 109 = .bool true := hd.2.1 rfl
              clear hd
              simp only [e96, e109] at hK
              have hK := Lib.hid hK
              go_wp2
              exact hK.out _ _ rfl (Below.refl _ _) (fun h => by cases h)
            refine steps2_cons ?_ ?_
            · intro f w1 hb hd Q hK
              have e110 : f 110 = .bool true := hd.1 rfl
              clear hd
              simp only [e110] at hK
              have hK := Lib.hid hK
              go_wp2
              exact hK.out _ _ rfl (Below.refl _ _) (fun h => by cases h)
            trivial
          · intro f13 y13 hb hf hne
            refine wpList_nil ?_
            have d4 : f13 4 = .bool true := hf 32 _ _ (by decide) rfl rfl
            clear hf hne
            simp only [d4]
            go_wp2
            go_returns
            exact ⟨rfl, hb0.trans (hb.mono hb0.size)⟩
        · have ctt := Lib.hid (css.out rfl)
          have coo := Lib.hid (cso.out rfl)
          clear css cso
          refine wp_region_grow2 33 (fun k => Nat.beq k 4 || (Nat.ble 79 k && Nat.ble k 110)) _ [] (fun j x' q => (fo13TTL a r s).getD j (fun _ _ => True) x' q) (fun _ => false) (fun f => #[.agg #[.int .u64 a.a0, .int .u64 a.a1, .int .u64 a.a2, .int .u64 a.a3, .int .u64 a.a4], .agg #[.int .u64 v.a0, .int .u64 v.a1, .int .u64 v.a2, .int .u64 v.a3, .int .u64 v.a4], .pointer (some ⟨w.heap.size, 0, none⟩), .pointer (some ⟨w.heap.size + 1, 0, none⟩), f 4, .pointer (some ⟨g5, 0, none⟩), .pointer (some ⟨gr, 0, none⟩), .bool true, .pointer (some ⟨g8, 0, none⟩), .bool true, .pointer (some ⟨gz, 0, none⟩), .bool (!true), .bool true, .bool false, .agg #[.int .u64 a.a0, .int .u64 a.a1, .int .u64 a.a2, .int .u64 a.a3, .int .u64 a.a4], .agg #[.int .u64 v.a0, .int .u64 v.a1, .int .u64 v.a2, .int .u64 v.a3, .int .u64 v.a4], .slice (some ⟨gs, 0, none⟩) 2 2, .bool true, .bool false, f5 19, f5 20, f5 21, .agg #[.int .u64 (Fe.mulE (Fe.mulE a a) v).a0, .int .u64 (Fe.mulE (Fe.mulE a a) v).a1, .int .u64 (Fe.mulE (Fe.mulE a a) v).a2, .int .u64 (Fe.mulE (Fe.mulE a a) v).a3, .int .u64 (Fe.mulE (Fe.mulE a a) v).a4], .tuple #[.agg #[.int .u64 r.a0, .int .u64 r.a1, .int .u64 r.a2, .int .u64 r.a3, .int .u64 r.a4], .bool true], .agg #[.int .u64 (Fe.mulE (Fe.mulE a a) v).a0, .int .u64 (Fe.mulE (Fe.mulE a a) v).a1, .int .u64 (Fe.mulE (Fe.mulE a a) v).a2, .int .u64 (Fe.mulE (Fe.mulE a a) v).a3, .int .u64 (Fe.mulE (Fe.mulE a a) v).a4], .agg #[.int .u64 v.a0, .int .u64 v.a1, .int .u64 v.a2, .int .u64 v.a3, .int .u64 v.a4], .tuple #[.agg #[.int .u64 r.a0, .int .u64 r.a1, .int .u64 r.a2, .int .u64 r.a3, .int .u64 r.a4], .bool true], .agg #[.int .u64 r.a0, .int .u64 r.a1, .int .u64 r.a2, .int .u64 r.a3, .int .u64 r.a4], .bool true, f7 29, f7 30, f7 31, f7 32, f7 33, f7 34, f7 35, f7 36, f7 37, f7 38, f7 39, f7 40, f7 41, f7 42, f7 43, f7 44, f7 45, f7 46, f7 47, f7 48, f7 49, f7 50, f7 51, f7 52, f7 53, f7 54, f7 55, f7 56, .bool false, .agg #[.int .u64 v.a0, .int .u64 v.a1, .int .u64 v.a2, .int .u64 v.a3, .int .u64 v.a4], .bool false, .bool false, .agg #[.int .u64 a.a0, .int .u64 a.a1, .int .u64 a.a2, .int .u64 a.a3, .int .u64 a.a4], .bool false, .bool false, undef, u65, u66, u67, u68, u69, u70, .tuple #[.agg #[.int .u64 z.a0, .int .u64 z.a1, .int .u64 z.a2, .int .u64 z.a3, .int .u64 z.a4], .bool (!true)], .agg #[.int .u64 a.a0, .int .u64 a.a1, .int .u64 a.a2, .int .u64 a.a3, .int .u64 a.a4], .agg #[.int .u64 a.a0, .int .u64 a.a1, .int .u64 a.a2, .int .u64 a.a3, .int .u64 a.a4], .agg #[.int .u64 (Fe.addE a a).a0, .int .u64 (Fe.addE a a).a1, .int .u64 (Fe.addE a a).a2, .int .u64 (Fe.addE a a).a3, .int .u64 (Fe.addE a a).a4], .agg #[.int .u64 1, .int .u64 0, .int .u64 0, .int .u64 0, .int .u64 0], .tuple #[.agg #[.int .u64 z.a0, .int .u64 z.a1, .int .u64 z.a2, .int .u64 z.a3, .int .u64 z.a4], .bool (!true)], .agg #[.int .u64 z.a0, .int .u64 z.a1, .int .u64 z.a2, .int .u64 z.a3, .int .u64 z.a4], .bool (!true), f 79, f 80, f 81, f 82, f 83, f 84, f 85, f 86, f 87, f 88, f 89, f 90, f 91, f 92, f 93, f 94, f 95, f 96, f 97, f 98, f 99, f 100, f 101, f 102, f 103, f 104, f 105, f 106, f 107, f 108, f 109, f 110]) (fun f => rfl) (by kernel_rfl) (by kernel_rfl) (by kernel_rfl) (by kernel_rfl) (by kernel_rfl) (fo13TTS _ _ _) (fun _ _ _ h => by cases h) ?_ ?_
          · refine steps2_cons ?_ ?_
            · intro f w1 hb hd Q hK
              clear hd
              have hK := Lib.hid hK
              go_wp2
              exact hK.out _ _ rfl (Below.refl _ _) (fun h => by cases h)
            refine steps2_cons ?_ ?_
            · intro f w1 hb hd Q hK
              have e79 : f 79 = .bool true := hd.1 rfl
              clear hd
              simp only [e79] at hK
              have hK := Lib.hid hK
              go_wp2
              exact hK.out _ _ rfl (Below.refl _ _) (fun h => by cases h)
            refine steps2_cons ?_ ?_
            · intro f w1 hb hd Q hK
              have e80 : f 80 = .bool true := hd.1 rfl
              clear hd
              simp only [e80] at hK
              have hK := Lib.hid hK
              obtain ⟨c0, c1, c2, c3, c4⟩ := blk5 (hR.below hb)
              go_wp2
              exact hK.out _ _ rfl (Below.refl _ _) (fun h => by cases h)
            refine steps2_cons ?_ ?_
            · intro f w1 hb hd Q hK
              have e80 : f 80 = .bool true := hd.1 rfl
              clear hd
              simp only [e80] at hK
              have hK := Lib.hid hK
              obtain ⟨c0, c1, c2, c3, c4⟩ := blk5 (hA.below hb)
              go_wp2
              exact hK.out _ _ rfl (Below.refl _ _) (fun h => by cases h)
            refine steps2_cons ?_ ?_
            · intro f w1 hb hd Q hK
              have e81 : f 81 = .agg #[.int .u64 r.a0, .int .u64 r.a1, .int .u64 r.a2, .int .u64 r.a3, .int .u64 r.a4] := hd.1 rfl
              have e82 : f 82 = .agg #[.int .u64 a.a0, .int .u64 a.a1, .int .u64 a.a2, .int .u64 a.a3, .int .u64 a.a4] := hd.2.1 rfl
              have e80 : f 80 = .bool true := hd.2.2.1 rfl
              clear hd
              simp only [e81, e82, e80] at hK
              have hK := Lib.hid hK
              go_wp2_with fail
              refine (csa.out _).mono ?_
              rintro e w2 ⟨rfl, hb2⟩
              go_wp2
              exact hK.out _ _ rfl hb2 (fun h => by cases h)
            refine steps2_cons ?_ ?_
            · intro f w1 hb hd Q hK
              have e83 : f 83 = .bool true := hd.1 rfl
              have e80 : f 80 = .bool true := hd.2.2.1 rfl
              clear hd
              simp only [e83, e80] at hK
              have hK := Lib.hid hK
              go_wp2
              exact hK.out _ _ rfl (Below.refl _ _) (fun h => by cases h)
            refine steps2_cons ?_ ?_
            · intro f w1 hb hd Q hK
              have e84 : f 84 = .bool true := hd.1 rfl
              clear hd
              simp only [e84] at hK
              have hK := Lib.hid hK
              go_wp2
              exact hK.out _ _ rfl (Below.refl _ _) (fun h => by cases h)
            refine steps2_cons ?_ ?_
            · intro f w1 hb hd Q hK
              have e84 : f 84 = .bool true := hd.1 rfl
              clear hd
              simp only [e84] at hK
              have hK := Lib.hid hK
              go_wp2
              exact hK.out _ _ rfl (Below.refl _ _) (fun h => by cases h)
            refine steps2_cons ?_ ?_
            · intro f w1 hb hd Q hK
              have e86 : f 86 = undef := hd.1 rfl
              have e84 : f 84 = .bool true := hd.2.1 rfl
              clear hd
              simp only [e86, e84] at hK
              have hK := Lib.hid hK
              go_wp2
              exact hK.out _ _ rfl (Below.refl _ _) (fun h => by cases h)
            refine steps2_cons ?_ ?_
            · intro f w1 hb hd Q hK
              have e85 : f 85 = undef := hd.1 rfl
              have e87 : f 87 = undef := hd.2.1 rfl
              have e84 : f 84 = .bool true := hd.2.2.2.1 rfl
              clear hd
              simp only [e85, e87, e84] at hK
              have hK := Lib.hid hK
              go_wp2
              exact hK.out _ _ rfl (Below.refl _ _) (fun h => by cases h)
            refine steps2_cons ?_ ?_
            · intro f w1 hb hd Q hK
              have e84 : f 84 = .bool true := hd.1 rfl
              have e88 : f 88 = undef := hd.2.1 rfl
              have e80 : f 80 = .bool true := hd.2.2.1 rfl
              clear hd
              simp only [e84, e88, e80] at hK
              have hK := Lib.hid hK
              go_wp2
              exact hK.out _ _ rfl (Below.refl _ _) (fun h => by cases h)
            refine steps2_cons ?_ ?_
            · intro f w1 hb hd Q hK
              have e80 : f 80 = .bool true := hd.1 rfl
              have e89 : f 89 = .bool true := hd.2.1 rfl
              clear hd
              simp only [e80, e89] at hK
              have hK := Lib.hid hK
              go_wp2
              exact hK.out _ _ rfl (Below.refl _ _) (fun h => by cases h)
            refine steps2_cons ?_ ?_
            · intro f w1 hb hd Q hK
              have e90 : f 90 = .bool true := hd.1 rfl
              clear hd
              simp only [e90] at hK
              have hK := Lib.hid hK
              go_wp2
              exact hK.out _ _ rfl (Below.refl _ _) (fun h => by cases h)
            refine steps2_cons ?_ ?_
            · intro f w1 hb hd Q hK
              have e91 : f 91 = .bool true := hd.1 rfl
              clear hd
              simp only [e91] at hK
              have hK := Lib.hid hK
              go_wp2
              exact hK.out _ _ rfl (Below.refl _ _) (fun h => by cases h)
            refine steps2_cons ?_ ?_
            · intro f w1 hb hd Q hK
              have e91 : f 91 = .bool true := hd.1 rfl
              clear hd
              simp only [e91] at hK
              have hK := Lib.hid hK
              go_wp2
              exact hK.out _ _ rfl (Below.refl _ _) (fun h => by cases h)
            refine steps2_cons ?_ ?_
            · intro f w1 hb hd Q hK
              have e92 : f 92 = .bool true := hd.1 rfl
              have e93 : f 93 = .bool (!true) := hd.2.1 rfl
              have e91 : f 91 = .bool true := hd.2.2.1 rfl
              clear hd
              simp only [e92, e93, e91] at hK
              have hK := Lib.hid hK
              go_wp2
              exact hK.out _ _ rfl (Below.refl _ _) (fun h => by cases h)
            refine steps2_cons ?_ ?_
            · intro f w1 hb hd Q hK
              have e91 : f 91 = .bool true := hd.1 rfl
              have e94 : f 94 = .bool true := hd.2.1 rfl
              clear hd
              simp only [e91, e94] at hK
              have hK := Lib.hid hK
              go_wp2
              exact hK.out _ _ rfl (Below.refl _ _) (fun h => by cases h)
            refine steps2_cons ?_ ?_
            · intro f w1 hb hd Q hK
              have e95 : f 95 = .bool true := hd.1 rfl
              clear hd
              simp only [e95] at hK
              have hK := Lib.hid hK
              go_wp2
              exact hK.out _ _ rfl (Below.refl _ _) (fun h => by cases h)
            refine steps2_cons ?_ ?_
            · intro f w1 hb hd Q hK
              have e96 : f 96 = .bool true := hd.1 rfl
              clear hd
              simp only [e96] at hK
              have hK := Lib.hid hK
              go_wp2
              exact hK.out _ _ rfl (Below.refl _ _) (fun h => by cases h)
            refine steps2_cons ?_ ?_
            · intro f w1 hb hd Q hK
              have e97 : f 97 = .bool true := hd.1 rfl
              have e96 : f 96 = .bool true := hd.2.1 rfl
              clear hd
              simp only [e97, e96] at hK
              have hK := Lib.hid hK
              go_wp2
              exact hK.out _ _ rfl (Below.refl _ _) (fun h => by cases h)
            refine steps2_cons ?_ ?_
            · intro f w1 hb hd Q hK
              have e98 : f 98 = .bool false := hd.1 rfl
              have e96 : f 96 = .bool true := hd.2.1 rfl
              clear hd
              simp only [e98, e96] at hK
              have hK := Lib.hid hK
              go_wp2
              exact hK.out _ _ rfl (Below.refl _ _) (fun h => by cases h)
            refine steps2_cons ?_ ?_
            · intro f w1 hb hd Q hK
              have e99 : f 99 = .bool false := hd.1 rfl
              clear hd
              simp only [e99] at hK
              have hK := Lib.hid hK
              obtain ⟨c0, c1, c2, c3, c4⟩ := blk5 (hS.below hb)
              go_wp2
              exact hK.out _ _ rfl (Below.refl _ _) (fun h => by cases h)
            refine steps2_cons ?_ ?_
            · intro f w1 hb hd Q hK
              have e100 : f 100 = .agg #[.int .u64 s.a0, .int .u64 s.a1, .int .u64 s.a2, .int .u64 s.a3, .int .u64 s.a4] := hd.1 rfl
              have e99 : f 99 = .bool false := hd.2.1 rfl
              clear hd
              simp only [e100, e99] at hK
              have hK := Lib.hid hK
              go_wp2_with fail
              refine ((square_E s hws) _).mono ?_
              rintro e w2 ⟨rfl, hb2⟩
              go_wp2
              exact hK.out _ _ rfl hb2 (fun h => by cases h)
            refine steps2_cons ?_ ?_
            · intro f w1 hb hd Q hK
              have e99 : f 99 = .bool false := hd.1 rfl
              clear hd
              simp only [e99] at hK
              have hK := Lib.hid hK
              obtain ⟨c0, c1, c2, c3, c4⟩ := blk5 (hA.below hb)
              go_wp2
              exact hK.out _ _ rfl (Below.refl _ _) (fun h => by cases h)
            refine steps2_cons ?_ ?_
            · intro f w1 hb hd Q hK
              have e101 : f 101 = .agg #[.int .u64 (Fe.mulE s s).a0, .int .u64 (Fe.mulE s s).a1, .int .u64 (Fe.mulE s s).a2, .int .u64 (Fe.mulE s s).a3, .int .u64 (Fe.mulE s s).a4] := hd.1 rfl
              have e102 : f 102 = .agg #[.int .u64 a.a0, .int .u64 a.a1, .int .u64 a.a2, .int .u64 a.a3, .int .u64 a.a4] := hd.2.1 rfl
              have e99 : f 99 = .bool false := hd.2.2.2.1 rfl
              clear hd
              simp only [e101, e102, e99] at hK
              have hK := Lib.hid hK
              go_wp2_with fail
              refine (ctt.out _).mono ?_
              rintro e w2 ⟨rfl, hb2⟩
              go_wp2
              exact hK.out _ _ rfl hb2 (fun h => by cases h)
            refine steps2_cons ?_ ?_
            · intro f w1 hb hd Q hK
              have e103 : f 103 = .bool true := hd.1 rfl
              have e99 : f 99 = .bool false := hd.2.2.1 rfl
              clear hd
              simp only [e103, e99] at hK
              have hK := Lib.hid hK
              go_wp2
              exact hK.out _ _ rfl (Below.refl _ _) (fun h => by cases h)
            refine steps2_cons ?_ ?_
            · intro f w1 hb hd Q hK
              have e104 : f 104 = .bool true := hd.1 rfl
              clear hd
              simp only [e104] at hK
              have hK := Lib.hid hK
              obtain ⟨c0, c1, c2, c3, c4⟩ := blk5 (hS.below hb)
              go_wp2
              exact hK.out _ _ rfl (Below.refl _ _) (fun h => by cases h)
            refine steps2_cons ?_ ?_
            · intro f w1 hb hd Q hK
              have e105 : f 105 = .agg #[.int .u64 s.a0, .int .u64 s.a1, .int .u64 s.a2, .int .u64 s.a3, .int .u64 s.a4] := hd.1 rfl
              have e104 : f 104 = .bool true := hd.2.1 rfl
              clear hd
              simp only [e105, e104] at hK
              have hK := Lib.hid hK
              go_wp2_with fail
              refine (coo.out _).mono ?_
              rintro e w2 ⟨rfl, hb2⟩
              go_wp2
              exact hK.out _ _ rfl hb2 (fun h => by cases h)
            refine steps2_cons ?_ ?_
            · intro f w1 hb hd Q hK
              have e106 : f 106 = .bool false := hd.1 rfl
              have e104 : f 104 = .bool true := hd.2.1 rfl
              clear hd
              simp only [e106, e104] at hK
              have hK := Lib.hid hK
              go_wp2
              exact hK.out _ _ rfl (Below.refl _ _) (fun h => by cases h)
            refine steps2_cons ?_ ?_
            · intro f w1 hb hd Q hK
              have e104 : f 104 = .bool true := hd.1 rfl
              have e107 : f 107 = .bool true := hd.2.1 rfl
              have e99 : f 99 = .bool false := hd.2.2.1 rfl
              clear hd
              simp only [e104, e107, e99] at hK
              have hK := Lib.hid hK
              go_wp2
              exact hK.out _ _ rfl (Below.refl _ _) (fun h => by cases h)
            refine steps2_cons ?_ ?_
            · intro f w1 hb hd Q hK
              have e99 : f 99 = .bool false := hd.1 rfl
              have e108 : f 108 = .bool true := hd.2.1 rfl
              have e96 : f 96 = .bool true := hd.2.2.1 rfl
              clear hd
              simp only [e99, e108, e96] at hK
              have hK := Lib.hid hK
              go_wp2
              exact hK.out _ _ rfl (Below.refl _ _) (fun h => by cases h)
            refine steps2_cons ?_ ?_
            · intro f w1 hb hd Q hK
              have e96 : f 96 = .bool true := hd.1 rfl
              have e109 : f 109 = .bool true := hd.2.1 rfl
              clear hd
              simp only [e96, e109] at hK
              have hK := Lib.hid hK
              go_wp2
              exact hK.out _ _ rfl (Below.refl _ _) (fun h => by cases h)
            refine steps2_cons ?_ ?_
            · intro f w1 hb hd Q hK
              have e110 : f 110 = .bool true := hd.1 rfl
              clear hd
              simp only [e110] at hK
              have hK := Lib.hid hK
              go_wp2
              exact hK.out _ _ rfl (Below.refl _ _) (fun h => by cases h)
            trivial
          · intro f13 y13 hb hf hne
            refine wpList_nil ?_
            have d4 : f13 4 = .bool true := hf 32 _ _ (by decide) rfl rfl
            clear hf hne
            simp only [d4]
            go_wp2
            go_returns
            exact ⟨rfl, hb0.trans (hb.mono hb0.size)⟩
set_option maxHeartbeats 8000000 in
set_option maxRecDepth 100000 in
theorem fieldRoots_n (a v : Fe.E) (hwa : Fe.W a) (hwv : Fe.W v) (hr : rightB 2 (xs2 a v) = false) (w : World) : Calls Try.prog 7 #[.agg #[.int .u64 a.a0, .int .u64 a.a1, .int .u64 a.a2, .int .u64 a.a3, .int .u64 a.a4], .agg #[.int .u64 v.a0, .int .u64 v.a1, .int .u64 v.a2, .int .u64 v.a3, .int .u64 v.a4]] w (PostV (.bool true) w) := by
  go_enter Try.func7, Try.ntmps7
  go_wp2_with fail
  refine calls_at (fun W0 hW => ?_)
  have hA : Blk W0 (w.heap.size) 24 #[.int .u64 a.a0, .int .u64 a.a1, .int .u64 a.a2, .int .u64 a.a3, .int .u64 a.a4] := by rw [hW]; exact (Blk.new _ _ _).alloc _
  have hV : Blk W0 (w.heap.size + 1) 24 #[.int .u64 v.a0, .int .u64 v.a1, .int .u64 v.a2, .int .u64 v.a3, .int .u64 v.a4] := by rw [hW]; exact blk_at (by simp) (Blk.new _ _ _)
  have hb0 : Below w.heap.size w W0 := by rw [hW]; go_grown
  clear hW
  refine (awake_c _).mono ?_
  rintro e w1 ⟨rfl, hb1⟩
  replace hA := hA.below hb1
  replace hV := hV.below hb1
  replace hb0 := hb0.trans (hb1.mono hb0.size)
  clear hb1
  obtain ⟨p0, p1, p2, p3, p4⟩ := blk5 hA
  obtain ⟨q0, q1, q2, q3, q4⟩ := blk5 hV
  go_wp2_with fail
  refine calls_at (fun W1 hW => ?_)
  replace hb0 : Below w.heap.size w W1 := by rw [hW]; exact hb0.alloc hb0.size _
  have hS : Blk W1 w1.heap.size 24 (dv2 a v) := by rw [hW]; exact Blk.new _ _ _
  replace hA : Blk W1 (w.heap.size) 24 #[.int .u64 a.a0, .int .u64 a.a1, .int .u64 a.a2, .int .u64 a.a3, .int .u64 a.a4] := by rw [hW]; exact hA.alloc _
  replace hV : Blk W1 (w.heap.size + 1) 24 #[.int .u64 v.a0, .int .u64 v.a1, .int .u64 v.a2, .int .u64 v.a3, .int .u64 v.a4] := by rw [hW]; exact hV.alloc _
  clear hW p0 p1 p2 p3 p4 q0 q1 q2 q3 q4
  refine (right_c w1.heap.size 2 2 (by decide) (xs2 a v) (fun i => by unfold xs2; split <;> assumption) _ hS.lt (cells2 a v hS)).mono ?_
  rintro e w2 ⟨rfl, hb2⟩
  clear hS
  replace hA := hA.below hb2
  replace hV := hV.below hb2
  replace hb0 := hb0.trans (hb2.mono hb0.size)
  clear hb2
  rw [hr]
  go_wp2
  go_returns
  exact ⟨rfl, hb0⟩
end Go.Proofs.Ytjejibojcjfleaa
