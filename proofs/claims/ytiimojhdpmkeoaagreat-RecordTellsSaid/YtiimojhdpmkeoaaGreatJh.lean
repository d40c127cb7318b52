/- The walk of record.Over. -/
import Derived.Test.YtiimojhdpmkeoaaGreatJg
import Derived.Test.YtiimojhdpmkeoaaGreatRk
namespace Go.Proofs.YtiimojhdpmkeoaaGreat
open Go.RowKit
def ovAL (k : ByteArray) (kb : ByteArray) (GA : Nat) (GB : Nat) : List (Value → World → Prop) := [
  Eq1 (.pointer (some ⟨GA, 0, none⟩)),
  Eq1 (.string k),
  Eq1 (.pointer (some ⟨GB, 0, none⟩)),
  Eq1 (.string kb),
  Eq1 (.bool false),
  Eq1 (.bool false),
  Eq1 (undef),
  Eq1 (undef),
  Eq1 (.bool false),
  Eq1 (.bool false),
  Eq1 (undef),
  Eq1 (undef),
  Eq1 (.bool false),
  Eq1 (.bool false),
  Eq1 (undef),
  Eq1 (undef),
  Eq1 (undef),
  Eq1 (undef),
  Eq1 (undef),
  Eq1 (.bool false),
  Eq1 (.bool false)]
theorem ovAS (k : ByteArray) (kb : ByteArray) (GA : Nat) (GB : Nat) : ∀ j x' q q', (ovAL k kb GA GB).getD j (fun _ _ => True) x' q → Below q.heap.size q q' → (ovAL k kb GA GB).getD j (fun _ _ => True) x' q' := by
  refine sta_all _ ?_
  simp only [ovAL, List.mem_cons, forall_eq_or_imp, List.not_mem_nil, false_implies, implies_true, and_true]
  exact ⟨sta_eq _, sta_eq _, sta_eq _, sta_eq _, sta_eq _, sta_eq _, sta_eq _, sta_eq _, sta_eq _, sta_eq _, sta_eq _, sta_eq _, sta_eq _, sta_eq _, sta_eq _, sta_eq _, sta_eq _, sta_eq _, sta_eq _, sta_eq _, sta_eq _⟩
def ovBL (k : ByteArray) (cl : Int) (sq : Int) (p1 : Option Addr) (n1 : Nat) (c1 : Nat) (gone : Bool) (p2 : Option Addr) (n2 : Nat) (c2 : Nat) (p3 : Option Addr) (n3 : Nat) (c3 : Nat) (kb : ByteArray) (GA : Nat) (GB : Nat) : List (Value → World → Prop) := [
  Eq1 (.pointer (some ⟨GA, 0, none⟩)),
  Eq1 (.string k),
  Eq1 (.pointer (some ⟨GB, 0, none⟩)),
  Eq1 (.string kb),
  Eq1 (.bool true),
  Eq1 (.bool true),
  Eq1 (.agg #[.string k, .int .i64 cl, .int .i64 sq, .slice p1 n1 c1, .bool gone, .slice p2 n2 c2, .slice p3 n3 c3]),
  Eq1 (.bool false),
  Eq1 (.bool false),
  Eq1 (.bool false),
  Eq1 (undef),
  Eq1 (undef),
  Eq1 (.bool false),
  Eq1 (.bool false),
  Eq1 (undef),
  Eq1 (undef),
  Eq1 (undef),
  Eq1 (undef),
  Eq1 (undef),
  Eq1 (.bool false),
  Eq1 (.bool false)]
theorem ovBS (k : ByteArray) (cl : Int) (sq : Int) (p1 : Option Addr) (n1 : Nat) (c1 : Nat) (gone : Bool) (p2 : Option Addr) (n2 : Nat) (c2 : Nat) (p3 : Option Addr) (n3 : Nat) (c3 : Nat) (kb : ByteArray) (GA : Nat) (GB : Nat) : ∀ j x' q q', (ovBL k cl sq p1 n1 c1 gone p2 n2 c2 p3 n3 c3 kb GA GB).getD j (fun _ _ => True) x' q → Below q.heap.size q q' → (ovBL k cl sq p1 n1 c1 gone p2 n2 c2 p3 n3 c3 kb GA GB).getD j (fun _ _ => True) x' q' := by
  refine sta_all _ ?_
  simp only [ovBL, List.mem_cons, forall_eq_or_imp, List.not_mem_nil, false_implies, implies_true, and_true]
  exact ⟨sta_eq _, sta_eq _, sta_eq _, sta_eq _, sta_eq _, sta_eq _, sta_eq _, sta_eq _, sta_eq _, sta_eq _, sta_eq _, sta_eq _, sta_eq _, sta_eq _, sta_eq _, sta_eq _, sta_eq _, sta_eq _, sta_eq _, sta_eq _, sta_eq _⟩
def ovCL (k : ByteArray) (cl : Int) (sq : Int) (p1 : Option Addr) (n1 : Nat) (c1 : Nat) (gone : Bool) (p2 : Option Addr) (n2 : Nat) (c2 : Nat) (p3 : Option Addr) (n3 : Nat) (c3 : Nat) (kb : ByteArray) (clb : Int) (sqb : Int) (pb1 : Option Addr) (nb1 : Nat) (cb1 : Nat) (goneb : Bool) (pb2 : Option Addr) (nb2 : Nat) (cb2 : Nat) (pb3 : Option Addr) (nb3 : Nat) (cb3 : Nat) (GA : Nat) (GB : Nat) : List (Value → World → Prop) := [
  Eq1 (.pointer (some ⟨GA, 0, none⟩)),
  Eq1 (.string k),
  Eq1 (.pointer (some ⟨GB, 0, none⟩)),
  Eq1 (.string kb),
  Eq1 (.bool true),
  Eq1 (.bool true),
  Eq1 (.agg #[.string k, .int .i64 cl, .int .i64 sq, .slice p1 n1 c1, .bool gone, .slice p2 n2 c2, .slice p3 n3 c3]),
  Eq1 (.bool true),
  Eq1 (.bool true),
  Eq1 (.bool true),
  Eq1 (.agg #[.string kb, .int .i64 clb, .int .i64 sqb, .slice pb1 nb1 cb1, .bool goneb, .slice pb2 nb2 cb2, .slice pb3 nb3 cb3]),
  Eq1 (.bool false),
  Eq1 (.bool false),
  Eq1 (.bool false),
  Eq1 (undef),
  Eq1 (undef),
  Eq1 (undef),
  Eq1 (undef),
  Eq1 (undef),
  Eq1 (.bool false),
  Eq1 (.bool false)]
theorem ovCS (k : ByteArray) (cl : Int) (sq : Int) (p1 : Option Addr) (n1 : Nat) (c1 : Nat) (gone : Bool) (p2 : Option Addr) (n2 : Nat) (c2 : Nat) (p3 : Option Addr) (n3 : Nat) (c3 : Nat) (kb : ByteArray) (clb : Int) (sqb : Int) (pb1 : Option Addr) (nb1 : Nat) (cb1 : Nat) (goneb : Bool) (pb2 : Option Addr) (nb2 : Nat) (cb2 : Nat) (pb3 : Option Addr) (nb3 : Nat) (cb3 : Nat) (GA : Nat) (GB : Nat) : ∀ j x' q q', (ovCL k cl sq p1 n1 c1 gone p2 n2 c2 p3 n3 c3 kb clb sqb pb1 nb1 cb1 goneb pb2 nb2 cb2 pb3 nb3 cb3 GA GB).getD j (fun _ _ => True) x' q → Below q.heap.size q q' → (ovCL k cl sq p1 n1 c1 gone p2 n2 c2 p3 n3 c3 kb clb sqb pb1 nb1 cb1 goneb pb2 nb2 cb2 pb3 nb3 cb3 GA GB).getD j (fun _ _ => True) x' q' := by
  refine sta_all _ ?_
  simp only [ovCL, List.mem_cons, forall_eq_or_imp, List.not_mem_nil, false_implies, implies_true, and_true]
  exact ⟨sta_eq _, sta_eq _, sta_eq _, sta_eq _, sta_eq _, sta_eq _, sta_eq _, sta_eq _, sta_eq _, sta_eq _, sta_eq _, sta_eq _, sta_eq _, sta_eq _, sta_eq _, sta_eq _, sta_eq _, sta_eq _, sta_eq _, sta_eq _, sta_eq _⟩
def ovDL (k : ByteArray) (cl : Int) (sq : Int) (p1 : Option Addr) (n1 : Nat) (c1 : Nat) (gone : Bool) (p2 : Option Addr) (n2 : Nat) (c2 : Nat) (p3 : Option Addr) (n3 : Nat) (c3 : Nat) (kb : ByteArray) (clb : Int) (sqb : Int) (pb1 : Option Addr) (nb1 : Nat) (cb1 : Nat) (goneb : Bool) (pb2 : Option Addr) (nb2 : Nat) (cb2 : Nat) (pb3 : Option Addr) (nb3 : Nat) (cb3 : Nat) (GA : Nat) (GB : Nat) : List (Value → World → Prop) := [
  Eq1 (.pointer (some ⟨GA, 0, none⟩)),
  Eq1 (.string k),
  Eq1 (.pointer (some ⟨GB, 0, none⟩)),
  Eq1 (.string kb),
  Eq1 (.bool true),
  Eq1 (.bool true),
  Eq1 (.agg #[.string k, .int .i64 cl, .int .i64 sq, .slice p1 n1 c1, .bool gone, .slice p2 n2 c2, .slice p3 n3 c3]),
  Eq1 (.bool true),
  Eq1 (.bool true),
  Eq1 (.bool true),
  Eq1 (.agg #[.string kb, .int .i64 clb, .int .i64 sqb, .slice pb1 nb1 cb1, .bool goneb, .slice pb2 nb2 cb2, .slice pb3 nb3 cb3]),
  Eq1 (.bool true),
  Eq1 (.bool true),
  Eq1 (.bool true),
  Eq1 (.pointer (some ⟨GA, 3, none⟩)),
  Eq1 (.slice p1 n1 c1),
  Eq1 (.agg #[.string kb, .int .i64 clb, .int .i64 sqb, .slice pb1 nb1 cb1, .bool goneb, .slice pb2 nb2 cb2, .slice pb3 nb3 cb3]),
  Eq1 (.agg #[.int .i64 clb, .int .i64 sqb]),
  Eq1 (.bool false),
  Eq1 (.bool false),
  Eq1 (.bool false)]
theorem ovDS (k : ByteArray) (cl : Int) (sq : Int) (p1 : Option Addr) (n1 : Nat) (c1 : Nat) (gone : Bool) (p2 : Option Addr) (n2 : Nat) (c2 : Nat) (p3 : Option Addr) (n3 : Nat) (c3 : Nat) (kb : ByteArray) (clb : Int) (sqb : Int) (pb1 : Option Addr) (nb1 : Nat) (cb1 : Nat) (goneb : Bool) (pb2 : Option Addr) (nb2 : Nat) (cb2 : Nat) (pb3 : Option Addr) (nb3 : Nat) (cb3 : Nat) (GA : Nat) (GB : Nat) : ∀ j x' q q', (ovDL k cl sq p1 n1 c1 gone p2 n2 c2 p3 n3 c3 kb clb sqb pb1 nb1 cb1 goneb pb2 nb2 cb2 pb3 nb3 cb3 GA GB).getD j (fun _ _ => True) x' q → Below q.heap.size q q' → (ovDL k cl sq p1 n1 c1 gone p2 n2 c2 p3 n3 c3 kb clb sqb pb1 nb1 cb1 goneb pb2 nb2 cb2 pb3 nb3 cb3 GA GB).getD j (fun _ _ => True) x' q' := by
  refine sta_all _ ?_
  simp only [ovDL, List.mem_cons, forall_eq_or_imp, List.not_mem_nil, false_implies, implies_true, and_true]
  exact ⟨sta_eq _, sta_eq _, sta_eq _, sta_eq _, sta_eq _, sta_eq _, sta_eq _, sta_eq _, sta_eq _, sta_eq _, sta_eq _, sta_eq _, sta_eq _, sta_eq _, sta_eq _, sta_eq _, sta_eq _, sta_eq _, sta_eq _, sta_eq _, sta_eq _⟩
def ovEL (k : ByteArray) (cl : Int) (sq : Int) (p1 : Option Addr) (n1 : Nat) (c1 : Nat) (gone : Bool) (p2 : Option Addr) (n2 : Nat) (c2 : Nat) (p3 : Option Addr) (n3 : Nat) (c3 : Nat) (kb : ByteArray) (clb : Int) (sqb : Int) (pb1 : Option Addr) (nb1 : Nat) (cb1 : Nat) (goneb : Bool) (pb2 : Option Addr) (nb2 : Nat) (cb2 : Nat) (pb3 : Option Addr) (nb3 : Nat) (cb3 : Nat) (GA : Nat) (GB : Nat) : List (Value → World → Prop) := [
  Eq1 (.pointer (some ⟨GA, 0, none⟩)),
  Eq1 (.string k),
  Eq1 (.pointer (some ⟨GB, 0, none⟩)),
  Eq1 (.string kb),
  Eq1 (.bool true),
  Eq1 (.bool true),
  Eq1 (.agg #[.string k, .int .i64 cl, .int .i64 sq, .slice p1 n1 c1, .bool gone, .slice p2 n2 c2, .slice p3 n3 c3]),
  Eq1 (.bool true),
  Eq1 (.bool true),
  Eq1 (.bool true),
  Eq1 (.agg #[.string kb, .int .i64 clb, .int .i64 sqb, .slice pb1 nb1 cb1, .bool goneb, .slice pb2 nb2 cb2, .slice pb3 nb3 cb3]),
  Eq1 (.bool true),
  Eq1 (.bool true),
  Eq1 (.bool true),
  Eq1 (.pointer (some ⟨GA, 3, none⟩)),
  Eq1 (.slice p1 n1 c1),
  Eq1 (.agg #[.string kb, .int .i64 clb, .int .i64 sqb, .slice pb1 nb1 cb1, .bool goneb, .slice pb2 nb2 cb2, .slice pb3 nb3 cb3]),
  Eq1 (.agg #[.int .i64 clb, .int .i64 sqb]),
  Eq1 (.bool true),
  Eq1 (.bool true),
  Eq1 (.bool true)]
theorem ovES (k : ByteArray) (cl : Int) (sq : Int) (p1 : Option Addr) (n1 : Nat) (c1 : Nat) (gone : Bool) (p2 : Option Addr) (n2 : Nat) (c2 : Nat) (p3 : Option Addr) (n3 : Nat) (c3 : Nat) (kb : ByteArray) (clb : Int) (sqb : Int) (pb1 : Option Addr) (nb1 : Nat) (cb1 : Nat) (goneb : Bool) (pb2 : Option Addr) (nb2 : Nat) (cb2 : Nat) (pb3 : Option Addr) (nb3 : Nat) (cb3 : Nat) (GA : Nat) (GB : Nat) : ∀ j x' q q', (ovEL k cl sq p1 n1 c1 gone p2 n2 c2 p3 n3 c3 kb clb sqb pb1 nb1 cb1 goneb pb2 nb2 cb2 pb3 nb3 cb3 GA GB).getD j (fun _ _ => True) x' q → Below q.heap.size q q' → (ovEL k cl sq p1 n1 c1 gone p2 n2 c2 p3 n3 c3 kb clb sqb pb1 nb1 cb1 goneb pb2 nb2 cb2 pb3 nb3 cb3 GA GB).getD j (fun _ _ => True) x' q' := by
  refine sta_all _ ?_
  simp only [ovEL, List.mem_cons, forall_eq_or_imp, List.not_mem_nil, false_implies, implies_true, and_true]
  exact ⟨sta_eq _, sta_eq _, sta_eq _, sta_eq _, sta_eq _, sta_eq _, sta_eq _, sta_eq _, sta_eq _, sta_eq _, sta_eq _, sta_eq _, sta_eq _, sta_eq _, sta_eq _, sta_eq _, sta_eq _, sta_eq _, sta_eq _, sta_eq _, sta_eq _⟩
theorem W_size : (Tryz.prog.info? 42).map (·.size) = some 7 := by kernel_rfl
theorem stW {ops : Array Oper} {rest : List Oper} {o : Oper} {a : Act} {w : World} {Q : Exit → Act → World → Prop} (hgd : o.guard = none) {x y : Operand} (ho : o.op = .store 42 x y) {g : Nat} {x0 x1 x2 x3 x4 x5 x6 : Value} {old : Array Value} (hx : a.eval x = .pointer (some ⟨g, 0, none⟩)) (hy : a.eval y = .agg #[x0, x1, x2, x3, x4, x5, x6]) (hg : Blk w g 42 old) (hs : old.size = 7) (h1 : (#[x0, x1, x2, x3, x4, x5, x6] : Array Value).all (·.oneCell') = true)
    (h : ∀ w', Blk w' g 42 #[x0, x1, x2, x3, x4, x5, x6] → w.grownBy w' (some g) → w'.heap.size = w.heap.size → wpList Tryz.prog ops Q rest (a.put o.dst undef) w') : wpList Tryz.prog ops Q (o :: rest) a w :=
  wpList_store_blk hgd 42 x y ho g 42 old _ hx hy hg hs W_size h1 h
def overB (k : ByteArray) (cl sq : Int) (n1 : Nat) (ds : List Int) (gone : Bool) (n2 : Nat) (kb : ByteArray) (clb sqb : Int) (nb1 : Nat) (dsb : List Int) (goneb : Bool) (nb2 : Nat) : Bool := decide (k.toList = kb.toList) && (shB k.size cl sq n1 ds gone n2 && (shB kb.size clb sqb nb1 dsb goneb nb2 && hasV n1 (dD ds) clb sqb))
set_option maxRecDepth 20000 in
set_option maxHeartbeats 8000000 in
theorem over_c (k : ByteArray) (cl sq : Int) (p1 : Option Addr) (n1 c1 : Nat) (gone : Bool) (p2 : Option Addr) (n2 c2 : Nat) (p3 : Option Addr) (n3 c3 : Nat) (kb : ByteArray) (clb sqb : Int) (pb1 : Option Addr) (nb1 cb1 : Nat) (goneb : Bool) (pb2 : Option Addr) (nb2 cb2 : Nat) (pb3 : Option Addr) (nb3 cb3 : Nat) (ds dsb : List Int) (hn1 : n1 ≤ 400000) (hnb1 : nb1 ≤ 400000) (w : World) (hD : DotsL w p1 n1 ds) (hDb : DotsL w pb1 nb1 dsb) :
    Calls Tryz.prog 14 #[.agg #[.string k, .int .i64 cl, .int .i64 sq, .slice p1 n1 c1, .bool gone, .slice p2 n2 c2, .slice p3 n3 c3], .agg #[.string kb, .int .i64 clb, .int .i64 sqb, .slice pb1 nb1 cb1, .bool goneb, .slice pb2 nb2 cb2, .slice pb3 nb3 cb3]] w fun e w' => e = .returned (.bool (overB k cl sq n1 ds gone n2 kb clb sqb nb1 dsb goneb nb2)) ∧ Below w.heap.size w w' := by
  obtain ⟨E, hE⟩ : ∃ E, E = overB k cl sq n1 ds gone n2 kb clb sqb nb1 dsb goneb nb2 := ⟨_, rfl⟩
  rw [← hE]
  unfold overB at hE
  replace hE := Lib.hid hE
  go_enter Tryz.func14, Tryz.ntmps14
  go_wp2
  refine at_world (fun W0 hW => ?_)
  have hA : Blk W0 w.heap.size 25 #[.string k, .int .i64 cl, .int .i64 sq, .slice p1 n1 c1, .bool gone, .slice p2 n2 c2, .slice p3 n3 c3] := by rw [hW]; exact (Blk.new _ _ _).alloc _
  have hB : Blk W0 (w.heap.size + 1) 25 #[.string kb, .int .i64 clb, .int .i64 sqb, .slice pb1 nb1 cb1, .bool goneb, .slice pb2 nb2 cb2, .slice pb3 nb3 cb3] := by rw [hW]; exact blk_at (by simp) (Blk.new _ _ _)
  have hb0 : Below w.heap.size w W0 := by rw [hW]; go_grown
  have hlt : w.heap.size + 1 < W0.heap.size := by rw [hW]; simp
  clear hW
  obtain ⟨GA, hGA⟩ : ∃ GA, GA = w.heap.size := ⟨_, rfl⟩
  obtain ⟨GB, hGB⟩ : ∃ GB, GB = w.heap.size + 1 := ⟨_, rfl⟩
  rw [← hGB] at hB hlt ⊢
  rw [← hGA] at hA ⊢
  have hAB : GA < GB := by omega
  have hGw : w.heap.size ≤ GA := by omega
  have hltA : GA < W0.heap.size := by omega
  clear hGA hGB
  obtain ⟨y0, y1, y2, y3, y4, y5, y6⟩ := blk7 hA
  obtain ⟨z0, z1, z2, z3, z4, z5, z6⟩ := blk7 hB
  go_region
  all_goals
    clear y0 y1 y2 y3 y4 y5 y6 z0 z1 z2 z3 z4 z5 z6
    go_wp2
    refine at_world (fun W1 hW => ?_)
    replace hA : Blk W1 GA 25 #[.string k, .int .i64 cl, .int .i64 sq, .slice p1 n1 c1, .bool gone, .slice p2 n2 c2, .slice p3 n3 c3] := by rw [hW]; exact ((hA.alloc _).alloc _).drew
    replace hB : Blk W1 GB 25 #[.string kb, .int .i64 clb, .int .i64 sqb, .slice pb1 nb1 cb1, .bool goneb, .slice pb2 nb2 cb2, .slice pb3 nb3 cb3] := by rw [hW]; exact ((hB.alloc _).alloc _).drew
    replace hb0 : Below w.heap.size w W1 := by rw [hW]; exact ((hb0.alloc hb0.size _).alloc (Nat.le_trans hb0.size (by simp)) _).drew
    first
      | (have hX : Blk W1 W0.heap.size 42 #[.string k, .int .i64 cl, .int .i64 sq, .slice p1 n1 c1, .bool gone, .slice p2 n2 c2, .slice p3 n3 c3] := by rw [hW]; exact ((Blk.new _ _ _).alloc _).drew
         have hY : Blk W1 (W0.heap.size + 1) 42 #[.string kb, .int .i64 clb, .int .i64 sqb, .slice pb1 nb1 cb1, .bool goneb, .slice pb2 nb2 cb2, .slice pb3 nb3 cb3] := by rw [hW]; exact (blk_at (by simp) (Blk.new _ _ _)).drew
         obtain ⟨GY, hGY⟩ : ∃ H, H = W0.heap.size + 1 := ⟨_, rfl⟩
         obtain ⟨GX, hGX⟩ : ∃ H, H = W0.heap.size := ⟨_, rfl⟩
         rw [← hGY] at hY ⊢
         rw [← hGX] at hX ⊢
         clear hGX hGY)
      | (have hX : Blk W1 (W0.heap.size + 1) 42 #[.string k, .int .i64 cl, .int .i64 sq, .slice p1 n1 c1, .bool gone, .slice p2 n2 c2, .slice p3 n3 c3] := by rw [hW]; exact (blk_at (by simp) (Blk.new _ _ _)).drew
         have hY : Blk W1 W0.heap.size 42 #[.string kb, .int .i64 clb, .int .i64 sqb, .slice pb1 nb1 cb1, .bool goneb, .slice pb2 nb2 cb2, .slice pb3 nb3 cb3] := by rw [hW]; exact ((Blk.new _ _ _).alloc _).drew
         obtain ⟨GX, hGX⟩ : ∃ H, H = W0.heap.size + 1 := ⟨_, rfl⟩
         obtain ⟨GY, hGY⟩ : ∃ H, H = W0.heap.size := ⟨_, rfl⟩
         rw [← hGX] at hX ⊢
         rw [← hGY] at hY ⊢
         clear hGX hGY)
    clear hW hlt hltA
    have csa := fun w' hb => shaped_c k cl sq p1 n1 c1 gone p2 n2 c2 p3 n3 c3 ds (by omega) w' ((hD.below hb0).below (w' := w') hb)
    have csb := fun w' hb => shaped_c kb clb sqb pb1 nb1 cb1 goneb pb2 nb2 cb2 pb3 nb3 cb3 dsb (by omega) w' ((hDb.below hb0).below (w' := w') hb)
    have chv := fun w' hb => vhas_c p1 n1 c1 (dD ds) clb sqb (by omega) w' ((hD.2.below hb0).below (w' := w') hb)
    have cdot := fun (w' : World) (_ : Below W1.heap.size W1 w') => dot_c kb clb sqb pb1 nb1 cb1 goneb pb2 nb2 cb2 pb3 nb3 cb3 w'
    clear hD hDb
    by_cases hk : k.toList = kb.toList
    · rw [decide_eq_true hk, Bool.true_and] at hE
      have hkk : (k.toList == kb.toList) = true := by rw [hk]; exact beq_self_eq_true _
      cases hsa : shB k.size cl sq n1 ds gone n2
      · rw [hsa] at hE csa
        rw [Bool.false_and] at hE
        replace csa := Lib.hid csa
        clear hk hsa csb chv cdot
        refine wp_region_grow2 21 (fun k => Nat.beq k 4 || (Nat.ble 11 k && Nat.ble k 30)) _ [] (fun j x' q => (ovBL k cl sq p1 n1 c1 gone p2 n2 c2 p3 n3 c3 kb GA GB).getD j (fun _ _ => True) x' q) (fun _ => false) (fun f => #[.agg #[.string k, .int .i64 cl, .int .i64 sq, .slice p1 n1 c1, .bool gone, .slice p2 n2 c2, .slice p3 n3 c3], .agg #[.string kb, .int .i64 clb, .int .i64 sqb, .slice pb1 nb1 cb1, .bool goneb, .slice pb2 nb2 cb2, .slice pb3 nb3 cb3], .pointer (some ⟨GA, 0, none⟩), .pointer (some ⟨GB, 0, none⟩), f 4, .pointer (some ⟨GX, 0, none⟩), .pointer (some ⟨GY, 0, none⟩), .agg #[.string k, .int .i64 cl, .int .i64 sq, .slice p1 n1 c1, .bool gone, .slice p2 n2 c2, .slice p3 n3 c3], .agg #[.string k, .int .i64 cl, .int .i64 sq, .slice p1 n1 c1, .bool gone, .slice p2 n2 c2, .slice p3 n3 c3], .agg #[.string kb, .int .i64 clb, .int .i64 sqb, .slice pb1 nb1 cb1, .bool goneb, .slice pb2 nb2 cb2, .slice pb3 nb3 cb3], .agg #[.string kb, .int .i64 clb, .int .i64 sqb, .slice pb1 nb1 cb1, .bool goneb, .slice pb2 nb2 cb2, .slice pb3 nb3 cb3], f 11, f 12, f 13, f 14, f 15, f 16, f 17, f 18, f 19, f 20, f 21, f 22, f 23, f 24, f 25, f 26, f 27, f 28, f 29, f 30]) (fun f => rfl) (by kernel_rfl) (by kernel_rfl) (by kernel_rfl) (by kernel_rfl) (by kernel_rfl) (ovBS _ _ _ _ _ _ _ _ _ _ _ _ _ _ _ _) (fun _ _ _ h => by cases h) ?_ ?_
        · refine steps2_cons ?_ ?_
          · intro f w1 hb hd Q hK
            clear hd
            have hK := Lib.hid hK
            go_wp2
            exact hK.out _ _ rfl (Below.refl _ _) (fun h => by cases h)
          refine steps2_cons ?_ ?_
          · intro f w1 hb hd Q hK
            have e11 : f 11 = .pointer (some ⟨GA, 0, none⟩) := hd.1 rfl
            clear hd
            simp only [e11] at hK
            have hK := Lib.hid hK
            have c0 := (hA.below hb).cell 0
            simp only [List.getElem?_toArray, List.getElem?_cons_zero] at c0
            go_wp2
            exact hK.out _ _ rfl (Below.refl _ _) (fun h => by cases h)
          refine steps2_cons ?_ ?_
          · intro f w1 hb hd Q hK
            clear hd
            have hK := Lib.hid hK
            go_wp2
            exact hK.out _ _ rfl (Below.refl _ _) (fun h => by cases h)
          refine steps2_cons ?_ ?_
          · intro f w1 hb hd Q hK
            have e13 : f 13 = .pointer (some ⟨GB, 0, none⟩) := hd.1 rfl
            clear hd
            simp only [e13] at hK
            have hK := Lib.hid hK
            have c0 := (hB.below hb).cell 0
            simp only [List.getElem?_toArray, List.getElem?_cons_zero] at c0
            go_wp2
            exact hK.out _ _ rfl (Below.refl _ _) (fun h => by cases h)
          refine steps2_cons ?_ ?_
          · intro f w1 hb hd Q hK
            have e12 : f 12 = .string k := hd.1 rfl
            have e14 : f 14 = .string kb := hd.2.1 rfl
            clear hd
            simp only [e12, e14] at hK
            have hK := Lib.hid hK
            go_wp2
            exact hK.out _ _ rfl (Below.refl _ _) (fun h => by cases h)
          refine steps2_cons ?_ ?_
          · intro f w1 hb hd Q hK
            have e15 : f 15 = .bool true := hd.1 rfl
            clear hd
            simp only [e15] at hK
            have hK := Lib.hid hK
            go_wp2
            exact hK.out _ _ rfl (Below.refl _ _) (fun h => by cases h)
          refine steps2_cons ?_ ?_
          · intro f w1 hb hd Q hK
            have e16 : f 16 = .bool true := hd.1 rfl
            clear hd
            simp only [e16] at hK
            have hK := Lib.hid hK
            obtain ⟨c0, c1, c2, c3, c4, c5, c6⟩ := blk7 (hX.below hb)
            go_wp2
            exact hK.out _ _ rfl (Below.refl _ _) (fun h => by cases h)
          refine steps2_cons ?_ ?_
          · intro f w1 hb hd Q hK
            have e17 : f 17 = .agg #[.string k, .int .i64 cl, .int .i64 sq, .slice p1 n1 c1, .bool gone, .slice p2 n2 c2, .slice p3 n3 c3] := hd.1 rfl
            have e16 : f 16 = .bool true := hd.2.1 rfl
            clear hd
            simp only [e17, e16] at hK
            have hK := Lib.hid hK
            go_wp2_with fail
            refine (csa.out _ hb).mono ?_
            rintro e w2 ⟨rfl, hb2⟩
            go_wp2
            exact hK.out _ _ rfl hb2 (fun h => by cases h)
          refine steps2_cons ?_ ?_
          · intro f w1 hb hd Q hK
            have e16 : f 16 = .bool true := hd.1 rfl
            have e18 : f 18 = .bool false := hd.2.1 rfl
            clear hd
            simp only [e16, e18] at hK
            have hK := Lib.hid hK
            go_wp2
            exact hK.out _ _ rfl (Below.refl _ _) (fun h => by cases h)
          refine steps2_cons ?_ ?_
          · intro f w1 hb hd Q hK
            have e19 : f 19 = .bool false := hd.1 rfl
            clear hd
            simp only [e19] at hK
            have hK := Lib.hid hK
            go_wp2
            exact hK.out _ _ rfl (Below.refl _ _) (fun h => by cases h)
          refine steps2_cons ?_ ?_
          · intro f w1 hb hd Q hK
            have e20 : f 20 = .bool false := hd.1 rfl
            clear hd
            simp only [e20] at hK
            have hK := Lib.hid hK
            go_wp2
            exact hK.out _ _ rfl (Below.refl _ _) (fun h => by cases h)
          refine steps2_cons ?_ ?_
          · intro f w1 hb hd Q hK
            have e21 : f 21 = undef := hd.1 rfl
            have e20 : f 20 = .bool false := hd.2.1 rfl
            clear hd
            simp only [e21, e20] at hK
            have hK := Lib.hid hK
            go_wp2
            exact hK.out _ _ rfl (Below.refl _ _) (fun h => by cases h)
          refine steps2_cons ?_ ?_
          · intro f w1 hb hd Q hK
            have e20 : f 20 = .bool false := hd.1 rfl
            have e22 : f 22 = undef := hd.2.1 rfl
            clear hd
            simp only [e20, e22] at hK
            have hK := Lib.hid hK
            go_wp2
            exact hK.out _ _ rfl (Below.refl _ _) (fun h => by cases h)
          refine steps2_cons ?_ ?_
          · intro f w1 hb hd Q hK
            have e23 : f 23 = .bool false := hd.1 rfl
            clear hd
            simp only [e23] at hK
            have hK := Lib.hid hK
            go_wp2
            exact hK.out _ _ rfl (Below.refl _ _) (fun h => by cases h)
          refine steps2_cons ?_ ?_
          · intro f w1 hb hd Q hK
            have e24 : f 24 = .bool false := hd.1 rfl
            clear hd
            simp only [e24] at hK
            have hK := Lib.hid hK
            go_wp2
            exact hK.out _ _ rfl (Below.refl _ _) (fun h => by cases h)
          refine steps2_cons ?_ ?_
          · intro f w1 hb hd Q hK
            have e25 : f 25 = undef := hd.1 rfl
            have e24 : f 24 = .bool false := hd.2.1 rfl
            clear hd
            simp only [e25, e24] at hK
            have hK := Lib.hid hK
            go_wp2
            exact hK.out _ _ rfl (Below.refl _ _) (fun h => by cases h)
          refine steps2_cons ?_ ?_
          · intro f w1 hb hd Q hK
            have e24 : f 24 = .bool false := hd.1 rfl
            clear hd
            simp only [e24] at hK
            have hK := Lib.hid hK
            go_wp2
            exact hK.out _ _ rfl (Below.refl _ _) (fun h => by cases h)
          refine steps2_cons ?_ ?_
          · intro f w1 hb hd Q hK
            have e27 : f 27 = undef := hd.1 rfl
            have e24 : f 24 = .bool false := hd.2.1 rfl
            clear hd
            simp only [e27, e24] at hK
            have hK := Lib.hid hK
            go_wp2
            exact hK.out _ _ rfl (Below.refl _ _) (fun h => by cases h)
          refine steps2_cons ?_ ?_
          · intro f w1 hb hd Q hK
            have e26 : f 26 = undef := hd.1 rfl
            have e28 : f 28 = undef := hd.2.1 rfl
            have e24 : f 24 = .bool false := hd.2.2.2.1 rfl
            clear hd
            simp only [e26, e28, e24] at hK
            have hK := Lib.hid hK
            go_wp2
            exact hK.out _ _ rfl (Below.refl _ _) (fun h => by cases h)
          refine steps2_cons ?_ ?_
          · intro f w1 hb hd Q hK
            have e24 : f 24 = .bool false := hd.1 rfl
            have e29 : f 29 = undef := hd.2.1 rfl
            clear hd
            simp only [e24, e29] at hK
            have hK := Lib.hid hK
            go_wp2
            exact hK.out _ _ rfl (Below.refl _ _) (fun h => by cases h)
          refine steps2_cons ?_ ?_
          · intro f w1 hb hd Q hK
            have e30 : f 30 = .bool false := hd.1 rfl
            clear hd
            simp only [e30] at hK
            have hK := Lib.hid hK
            go_wp2
            exact hK.out _ _ rfl (Below.refl _ _) (fun h => by cases h)
          trivial
        · intro f2 y1 hb hf hne
          refine wpList_nil ?_
          have d20 : f2 20 = .bool false := hf 9 _ _ (by decide) rfl rfl
          have d4 : f2 4 = .bool false := hf 20 _ _ (by decide) rfl rfl
          clear hf hne
          simp only [d4]
          clear d4 d20
          go_wp2
          go_returns
          exact ⟨by rw [hE.out]; rfl, hb0.trans (hb.mono hb0.size)⟩
      · rw [hsa] at hE csa
        rw [Bool.true_and] at hE
        replace csa := Lib.hid csa
        cases hsb : shB kb.size clb sqb nb1 dsb goneb nb2
        · rw [hsb] at hE csb
          rw [Bool.false_and] at hE
          replace csb := Lib.hid csb
          clear hk hsa hsb chv cdot
          refine wp_region_grow2 21 (fun k => Nat.beq k 4 || (Nat.ble 11 k && Nat.ble k 30)) _ [] (fun j x' q => (ovCL k cl sq p1 n1 c1 gone p2 n2 c2 p3 n3 c3 kb clb sqb pb1 nb1 cb1 goneb pb2 nb2 cb2 pb3 nb3 cb3 GA GB).getD j (fun _ _ => True) x' q) (fun _ => false) (fun f => #[.agg #[.string k, .int .i64 cl, .int .i64 sq, .slice p1 n1 c1, .bool gone, .slice p2 n2 c2, .slice p3 n3 c3], .agg #[.string kb, .int .i64 clb, .int .i64 sqb, .slice pb1 nb1 cb1, .bool goneb, .slice pb2 nb2 cb2, .slice pb3 nb3 cb3], .pointer (some ⟨GA, 0, none⟩), .pointer (some ⟨GB, 0, none⟩), f 4, .pointer (some ⟨GX, 0, none⟩), .pointer (some ⟨GY, 0, none⟩), .agg #[.string k, .int .i64 cl, .int .i64 sq, .slice p1 n1 c1, .bool gone, .slice p2 n2 c2, .slice p3 n3 c3], .agg #[.string k, .int .i64 cl, .int .i64 sq, .slice p1 n1 c1, .bool gone, .slice p2 n2 c2, .slice p3 n3 c3], .agg #[.string kb, .int .i64 clb, .int .i64 sqb, .slice pb1 nb1 cb1, .bool goneb, .slice pb2 nb2 cb2, .slice pb3 nb3 cb3], .agg #[.string kb, .int .i64 clb, .int .i64 sqb, .slice pb1 nb1 cb1, .bool goneb, .slice pb2 nb2 cb2, .slice pb3 nb3 cb3], f 11, f 12, f 13, f 14, f 15, f 16, f 17, f 18, f 19, f 20, f 21, f 22, f 23, f 24, f 25, f 26, f 27, f 28, f 29, f 30]) (fun f => rfl) (by kernel_rfl) (by kernel_rfl) (by kernel_rfl) (by kernel_rfl) (by kernel_rfl) (ovCS _ _ _ _ _ _ _ _ _ _ _ _ _ _ _ _ _ _ _ _ _ _ _ _ _ _ _ _) (fun _ _ _ h => by cases h) ?_ ?_
          · refine steps2_cons ?_ ?_
            · intro f w1 hb hd Q hK
              clear hd
              have hK := Lib.hid hK
              go_wp2
              exact hK.out _ _ rfl (Below.refl _ _) (fun h => by cases h)
            refine steps2_cons ?_ ?_
            · intro f w1 hb hd Q hK
              have e11 : f 11 = .pointer (some ⟨GA, 0, none⟩) := hd.1 rfl
              clear hd
              simp only [e11] at hK
              have hK := Lib.hid hK
              have c0 := (hA.below hb).cell 0
              simp only [List.getElem?_toArray, List.getElem?_cons_zero] at c0
              go_wp2
              exact hK.out _ _ rfl (Below.refl _ _) (fun h => by cases h)
            refine steps2_cons ?_ ?_
            · intro f w1 hb hd Q hK
              clear hd
              have hK := Lib.hid hK
              go_wp2
              exact hK.out _ _ rfl (Below.refl _ _) (fun h => by cases h)
            refine steps2_cons ?_ ?_
            · intro f w1 hb hd Q hK
              have e13 : f 13 = .pointer (some ⟨GB, 0, none⟩) := hd.1 rfl
              clear hd
              simp only [e13] at hK
              have hK := Lib.hid hK
              have c0 := (hB.below hb).cell 0
              simp only [List.getElem?_toArray, List.getElem?_cons_zero] at c0
              go_wp2
              exact hK.out _ _ rfl (Below.refl _ _) (fun h => by cases h)
            refine steps2_cons ?_ ?_
            · intro f w1 hb hd Q hK
              have e12 : f 12 = .string k := hd.1 rfl
              have e14 : f 14 = .string kb := hd.2.1 rfl
              clear hd
              simp only [e12, e14] at hK
              have hK := Lib.hid hK
              go_wp2
              exact hK.out _ _ rfl (Below.refl _ _) (fun h => by cases h)
            refine steps2_cons ?_ ?_
            · intro f w1 hb hd Q hK
              have e15 : f 15 = .bool true := hd.1 rfl
              clear hd
              simp only [e15] at hK
              have hK := Lib.hid hK
              go_wp2
              exact hK.out _ _ rfl (Below.refl _ _) (fun h => by cases h)
            refine steps2_cons ?_ ?_
            · intro f w1 hb hd Q hK
              have e16 : f 16 = .bool true := hd.1 rfl
              clear hd
              simp only [e16] at hK
              have hK := Lib.hid hK
              obtain ⟨c0, c1, c2, c3, c4, c5, c6⟩ := blk7 (hX.below hb)
              go_wp2
              exact hK.out _ _ rfl (Below.refl _ _) (fun h => by cases h)
            refine steps2_cons ?_ ?_
            · intro f w1 hb hd Q hK
              have e17 : f 17 = .agg #[.string k, .int .i64 cl, .int .i64 sq, .slice p1 n1 c1, .bool gone, .slice p2 n2 c2, .slice p3 n3 c3] := hd.1 rfl
              have e16 : f 16 = .bool true := hd.2.1 rfl
              clear hd
              simp only [e17, e16] at hK
              have hK := Lib.hid hK
              go_wp2_with fail
              refine (csa.out _ hb).mono ?_
              rintro e w2 ⟨rfl, hb2⟩
              go_wp2
              exact hK.out _ _ rfl hb2 (fun h => by cases h)
            refine steps2_cons ?_ ?_
            · intro f w1 hb hd Q hK
              have e16 : f 16 = .bool true := hd.1 rfl
              have e18 : f 18 = .bool true := hd.2.1 rfl
              clear hd
              simp only [e16, e18] at hK
              have hK := Lib.hid hK
              go_wp2
              exact hK.out _ _ rfl (Below.refl _ _) (fun h => by cases h)
            refine steps2_cons ?_ ?_
            · intro f w1 hb hd Q hK
              have e19 : f 19 = .bool true := hd.1 rfl
              clear hd
              simp only [e19] at hK
              have hK := Lib.hid hK
              go_wp2
              exact hK.out _ _ rfl (Below.refl _ _) (fun h => by cases h)
            refine steps2_cons ?_ ?_
            · intro f w1 hb hd Q hK
              have e20 : f 20 = .bool true := hd.1 rfl
              clear hd
              simp only [e20] at hK
              have hK := Lib.hid hK
              obtain ⟨c0, c1, c2, c3, c4, c5, c6⟩ := blk7 (hY.below hb)
              go_wp2
              exact hK.out _ _ rfl (Below.refl _ _) (fun h => by cases h)
            refine steps2_cons ?_ ?_
            · intro f w1 hb hd Q hK
              have e21 : f 21 = .agg #[.string kb, .int .i64 clb, .int .i64 sqb, .slice pb1 nb1 cb1, .bool goneb, .slice pb2 nb2 cb2, .slice pb3 nb3 cb3] := hd.1 rfl
              have e20 : f 20 = .bool true := hd.2.1 rfl
              clear hd
              simp only [e21, e20] at hK
              have hK := Lib.hid hK
              go_wp2_with fail
              refine (csb.out _ hb).mono ?_
              rintro e w2 ⟨rfl, hb2⟩
              go_wp2
              exact hK.out _ _ rfl hb2 (fun h => by cases h)
            refine steps2_cons ?_ ?_
            · intro f w1 hb hd Q hK
              have e20 : f 20 = .bool true := hd.1 rfl
              have e22 : f 22 = .bool false := hd.2.1 rfl
              clear hd
              simp only [e20, e22] at hK
              have hK := Lib.hid hK
              go_wp2
              exact hK.out _ _ rfl (Below.refl _ _) (fun h => by cases h)
            refine steps2_cons ?_ ?_
            · intro f w1 hb hd Q hK
              have e23 : f 23 = .bool false := hd.1 rfl
              clear hd
              simp only [e23] at hK
              have hK := Lib.hid hK
              go_wp2
              exact hK.out _ _ rfl (Below.refl _ _) (fun h => by cases h)
            refine steps2_cons ?_ ?_
            · intro f w1 hb hd Q hK
              have e24 : f 24 = .bool false := hd.1 rfl
              clear hd
              simp only [e24] at hK
              have hK := Lib.hid hK
              go_wp2
              exact hK.out _ _ rfl (Below.refl _ _) (fun h => by cases h)
            refine steps2_cons ?_ ?_
            · intro f w1 hb hd Q hK
              have e25 : f 25 = undef := hd.1 rfl
              have e24 : f 24 = .bool false := hd.2.1 rfl
              clear hd
              simp only [e25, e24] at hK
              have hK := Lib.hid hK
              go_wp2
              exact hK.out _ _ rfl (Below.refl _ _) (fun h => by cases h)
            refine steps2_cons ?_ ?_
            · intro f w1 hb hd Q hK
              have e24 : f 24 = .bool false := hd.1 rfl
              clear hd
              simp only [e24] at hK
              have hK := Lib.hid hK
              go_wp2
              exact hK.out _ _ rfl (Below.refl _ _) (fun h => by cases h)
            refine steps2_cons ?_ ?_
            · intro f w1 hb hd Q hK
              have e27 : f 27 = undef := hd.1 rfl
              have e24 : f 24 = .bool false := hd.2.1 rfl
              clear hd
              simp only [e27, e24] at hK
              have hK := Lib.hid hK
              go_wp2
              exact hK.out _ _ rfl (Below.refl _ _) (fun h => by cases h)
            refine steps2_cons ?_ ?_
            · intro f w1 hb hd Q hK
              have e26 : f 26 = undef := hd.1 rfl
              have e28 : f 28 = undef := hd.2.1 rfl
              have e24 : f 24 = .bool false := hd.2.2.2.1 rfl
              clear hd
              simp only [e26, e28, e24] at hK
              have hK := Lib.hid hK
              go_wp2
              exact hK.out _ _ rfl (Below.refl _ _) (fun h => by cases h)
            refine steps2_cons ?_ ?_
            · intro f w1 hb hd Q hK
              have e24 : f 24 = .bool false := hd.1 rfl
              have e29 : f 29 = undef := hd.2.1 rfl
              clear hd
              simp only [e24, e29] at hK
              have hK := Lib.hid hK
              go_wp2
              exact hK.out _ _ rfl (Below.refl _ _) (fun h => by cases h)
            refine steps2_cons ?_ ?_
            · intro f w1 hb hd Q hK
              have e30 : f 30 = .bool false := hd.1 rfl
              clear hd
              simp only [e30] at hK
              have hK := Lib.hid hK
              go_wp2
              exact hK.out _ _ rfl (Below.refl _ _) (fun h => by cases h)
            trivial
          · intro f2 y1 hb hf hne
            refine wpList_nil ?_
            have d20 : f2 20 = .bool true := hf 9 _ _ (by decide) rfl rfl
            have d4 : f2 4 = .bool false := hf 20 _ _ (by decide) rfl rfl
            clear hf hne
            simp only [d4]
            clear d4 d20
            go_wp2
            go_returns
            exact ⟨by rw [hE.out]; rfl, hb0.trans (hb.mono hb0.size)⟩
        · rw [hsb] at hE csb
          rw [Bool.true_and] at hE
          replace csb := Lib.hid csb
          replace cdot := Lib.hid cdot
          cases hhv : hasV n1 (dD ds) clb sqb
          · rw [hhv] at hE chv
            replace chv := Lib.hid chv
            clear hk hsa hsb hhv
            refine wp_region_grow2 21 (fun k => Nat.beq k 4 || (Nat.ble 11 k && Nat.ble k 30)) _ [] (fun j x' q => (ovDL k cl sq p1 n1 c1 gone p2 n2 c2 p3 n3 c3 kb clb sqb pb1 nb1 cb1 goneb pb2 nb2 cb2 pb3 nb3 cb3 GA GB).getD j (fun _ _ => True) x' q) (fun _ => false) (fun f => #[.agg #[.string k, .int .i64 cl, .int .i64 sq, .slice p1 n1 c1, .bool gone, .slice p2 n2 c2, .slice p3 n3 c3], .agg #[.string kb, .int .i64 clb, .int .i64 sqb, .slice pb1 nb1 cb1, .bool goneb, .slice pb2 nb2 cb2, .slice pb3 nb3 cb3], .pointer (some ⟨GA, 0, none⟩), .pointer (some ⟨GB, 0, none⟩), f 4, .pointer (some ⟨GX, 0, none⟩), .pointer (some ⟨GY, 0, none⟩), .agg #[.string k, .int .i64 cl, .int .i64 sq, .slice p1 n1 c1, .bool gone, .slice p2 n2 c2, .slice p3 n3 c3], .agg #[.string k, .int .i64 cl, .int .i64 sq, .slice p1 n1 c1, .bool gone, .slice p2 n2 c2, .slice p3 n3 c3], .agg #[.string kb, .int .i64 clb, .int .i64 sqb, .slice pb1 nb1 cb1, .bool goneb, .slice pb2 nb2 cb2, .slice pb3 nb3 cb3], .agg #[.string kb, .int .i64 clb, .int .i64 sqb, .slice pb1 nb1 cb1, .bool goneb, .slice pb2 nb2 cb2, .slice pb3 nb3 cb3], f 11, f 12, f 13, f 14, f 15, f 16, f 17, f 18, f 19, f 20, f 21, f 22, f 23, f 24, f 25, f 26, f 27, f 28, f 29, f 30]) (fun f => rfl) (by kernel_rfl) (by kernel_rfl) (by kernel_rfl) (by kernel_rfl) (by kernel_rfl) (ovDS _ _ _ _ _ _ _ _ _ _ _ _ _ _ _ _ _ _ _ _ _ _ _ _ _ _ _ _) (fun _ _ _ h => by cases h) ?_ ?_
            · refine steps2_cons ?_ ?_
              · intro f w1 hb hd Q hK
                clear hd
                have hK := Lib.hid hK
                go_wp2
                exact hK.out _ _ rfl (Below.refl _ _) (fun h => by cases h)
              refine steps2_cons ?_ ?_
              · intro f w1 hb hd Q hK
                have e11 : f 11 = .pointer (some ⟨GA, 0, none⟩) := hd.1 rfl
                clear hd
                simp only [e11] at hK
                have hK := Lib.hid hK
                have c0 := (hA.below hb).cell 0
                simp only [List.getElem?_toArray, List.getElem?_cons_zero] at c0
                go_wp2
                exact hK.out _ _ rfl (Below.refl _ _) (fun h => by cases h)
              refine steps2_cons ?_ ?_
              · intro f w1 hb hd Q hK
                clear hd
                have hK := Lib.hid hK
                go_wp2
                exact hK.out _ _ rfl (Below.refl _ _) (fun h => by cases h)
              refine steps2_cons ?_ ?_
              · intro f w1 hb hd Q hK
                have e13 : f 13 = .pointer (some ⟨GB, 0, none⟩) := hd.1 rfl
                clear hd
                simp only [e13] at hK
                have hK := Lib.hid hK
                have c0 := (hB.below hb).cell 0
                simp only [List.getElem?_toArray, List.getElem?_cons_zero] at c0
                go_wp2
                exact hK.out _ _ rfl (Below.refl _ _) (fun h => by cases h)
              refine steps2_cons ?_ ?_
              · intro f w1 hb hd Q hK
                have e12 : f 12 = .string k := hd.1 rfl
                have e14 : f 14 = .string kb := hd.2.1 rfl
                clear hd
                simp only [e12, e14] at hK
                have hK := Lib.hid hK
                go_wp2
                exact hK.out _ _ rfl (Below.refl _ _) (fun h => by cases h)
              refine steps2_cons ?_ ?_
              · intro f w1 hb hd Q hK
                have e15 : f 15 = .bool true := hd.1 rfl
                clear hd
                simp only [e15] at hK
                have hK := Lib.hid hK
                go_wp2
                exact hK.out _ _ rfl (Below.refl _ _) (fun h => by cases h)
              refine steps2_cons ?_ ?_
              · intro f w1 hb hd Q hK
                have e16 : f 16 = .bool true := hd.1 rfl
                clear hd
                simp only [e16] at hK
                have hK := Lib.hid hK
                obtain ⟨c0, c1, c2, c3, c4, c5, c6⟩ := blk7 (hX.below hb)
                go_wp2
                exact hK.out _ _ rfl (Below.refl _ _) (fun h => by cases h)
              refine steps2_cons ?_ ?_
              · intro f w1 hb hd Q hK
                have e17 : f 17 = .agg #[.string k, .int .i64 cl, .int .i64 sq, .slice p1 n1 c1, .bool gone, .slice p2 n2 c2, .slice p3 n3 c3] := hd.1 rfl
                have e16 : f 16 = .bool true := hd.2.1 rfl
                clear hd
                simp only [e17, e16] at hK
                have hK := Lib.hid hK
                go_wp2_with fail
                refine (csa.out _ hb).mono ?_
                rintro e w2 ⟨rfl, hb2⟩
                go_wp2
                exact hK.out _ _ rfl hb2 (fun h => by cases h)
              refine steps2_cons ?_ ?_
              · intro f w1 hb hd Q hK
                have e16 : f 16 = .bool true := hd.1 rfl
                have e18 : f 18 = .bool true := hd.2.1 rfl
                clear hd
                simp only [e16, e18] at hK
                have hK := Lib.hid hK
                go_wp2
                exact hK.out _ _ rfl (Below.refl _ _) (fun h => by cases h)
              refine steps2_cons ?_ ?_
              · intro f w1 hb hd Q hK
                have e19 : f 19 = .bool true := hd.1 rfl
                clear hd
                simp only [e19] at hK
                have hK := Lib.hid hK
                go_wp2
                exact hK.out _ _ rfl (Below.refl _ _) (fun h => by cases h)
              refine steps2_cons ?_ ?_
              · intro f w1 hb hd Q hK
                have e20 : f 20 = .bool true := hd.1 rfl
                clear hd
                simp only [e20] at hK
                have hK := Lib.hid hK
                obtain ⟨c0, c1, c2, c3, c4, c5, c6⟩ := blk7 (hY.below hb)
                go_wp2
                exact hK.out _ _ rfl (Below.refl _ _) (fun h => by cases h)
              refine steps2_cons ?_ ?_
              · intro f w1 hb hd Q hK
                have e21 : f 21 = .agg #[.string kb, .int .i64 clb, .int .i64 sqb, .slice pb1 nb1 cb1, .bool goneb, .slice pb2 nb2 cb2, .slice pb3 nb3 cb3] := hd.1 rfl
                have e20 : f 20 = .bool true := hd.2.1 rfl
                clear hd
                simp only [e21, e20] at hK
                have hK := Lib.hid hK
                go_wp2_with fail
                refine (csb.out _ hb).mono ?_
                rintro e w2 ⟨rfl, hb2⟩
                go_wp2
                exact hK.out _ _ rfl hb2 (fun h => by cases h)
              refine steps2_cons ?_ ?_
              · intro f w1 hb hd Q hK
                have e20 : f 20 = .bool true := hd.1 rfl
                have e22 : f 22 = .bool true := hd.2.1 rfl
                clear hd
                simp only [e20, e22] at hK
                have hK := Lib.hid hK
                go_wp2
                exact hK.out _ _ rfl (Below.refl _ _) (fun h => by cases h)
              refine steps2_cons ?_ ?_
              · intro f w1 hb hd Q hK
                have e23 : f 23 = .bool true := hd.1 rfl
                clear hd
                simp only [e23] at hK
                have hK := Lib.hid hK
                go_wp2
                exact hK.out _ _ rfl (Below.refl _ _) (fun h => by cases h)
              refine steps2_cons ?_ ?_
              · intro f w1 hb hd Q hK
                have e24 : f 24 = .bool true := hd.1 rfl
                clear hd
                simp only [e24] at hK
                have hK := Lib.hid hK
                go_wp2
                exact hK.out _ _ rfl (Below.refl _ _) (fun h => by cases h)
              refine steps2_cons ?_ ?_
              · intro f w1 hb hd Q hK
                have e25 : f 25 = .pointer (some ⟨GA, 3, none⟩) := hd.1 rfl
                have e24 : f 24 = .bool true := hd.2.1 rfl
                clear hd
                simp only [e25, e24] at hK
                have hK := Lib.hid hK
                have c0 := (hA.below hb).cell 3
                simp only [List.getElem?_toArray, List.getElem?_cons_zero, List.getElem?_cons_succ] at c0
                go_wp2
                exact hK.out _ _ rfl (Below.refl _ _) (fun h => by cases h)
              refine steps2_cons ?_ ?_
              · intro f w1 hb hd Q hK
                have e24 : f 24 = .bool true := hd.1 rfl
                clear hd
                simp only [e24] at hK
                have hK := Lib.hid hK
                obtain ⟨c0, c1, c2, c3, c4, c5, c6⟩ := blk7 (hY.below hb)
                go_wp2
                exact hK.out _ _ rfl (Below.refl _ _) (fun h => by cases h)
              refine steps2_cons ?_ ?_
              · intro f w1 hb hd Q hK
                have e27 : f 27 = .agg #[.string kb, .int .i64 clb, .int .i64 sqb, .slice pb1 nb1 cb1, .bool goneb, .slice pb2 nb2 cb2, .slice pb3 nb3 cb3] := hd.1 rfl
                have e24 : f 24 = .bool true := hd.2.1 rfl
                clear hd
                simp only [e27, e24] at hK
                have hK := Lib.hid hK
                go_wp2_with fail
                refine (cdot.out _ hb).mono ?_
                rintro e w2 ⟨rfl, hb2⟩
                go_wp2
                exact hK.out _ _ rfl hb2 (fun h => by cases h)
              refine steps2_cons ?_ ?_
              · intro f w1 hb hd Q hK
                have e26 : f 26 = .slice p1 n1 c1 := hd.1 rfl
                have e28 : f 28 = .agg #[.int .i64 clb, .int .i64 sqb] := hd.2.1 rfl
                have e24 : f 24 = .bool true := hd.2.2.2.1 rfl
                clear hd
                simp only [e26, e28, e24] at hK
                have hK := Lib.hid hK
                go_wp2_with fail
                refine (chv.out _ hb).mono ?_
                rintro e w2 ⟨rfl, hb2⟩
                go_wp2
                exact hK.out _ _ rfl hb2 (fun h => by cases h)
              refine steps2_cons ?_ ?_
              · intro f w1 hb hd Q hK
                have e24 : f 24 = .bool true := hd.1 rfl
                have e29 : f 29 = .bool false := hd.2.1 rfl
                clear hd
                simp only [e24, e29] at hK
                have hK := Lib.hid hK
                go_wp2
                exact hK.out _ _ rfl (Below.refl _ _) (fun h => by cases h)
              refine steps2_cons ?_ ?_
              · intro f w1 hb hd Q hK
                have e30 : f 30 = .bool false := hd.1 rfl
                clear hd
                simp only [e30] at hK
                have hK := Lib.hid hK
                go_wp2
                exact hK.out _ _ rfl (Below.refl _ _) (fun h => by cases h)
              trivial
            · intro f2 y1 hb hf hne
              refine wpList_nil ?_
              have d20 : f2 20 = .bool true := hf 9 _ _ (by decide) rfl rfl
              have d4 : f2 4 = .bool false := hf 20 _ _ (by decide) rfl rfl
              clear hf hne
              simp only [d4]
              clear d4 d20
              go_wp2
              go_returns
              exact ⟨by rw [hE.out]; rfl, hb0.trans (hb.mono hb0.size)⟩
          · rw [hhv] at hE chv
            replace chv := Lib.hid chv
            clear hk hsa hsb hhv
            refine wp_region_grow2 21 (fun k => Nat.beq k 4 || (Nat.ble 11 k && Nat.ble k 30)) _ [] (fun j x' q => (ovEL k cl sq p1 n1 c1 gone p2 n2 c2 p3 n3 c3 kb clb sqb pb1 nb1 cb1 goneb pb2 nb2 cb2 pb3 nb3 cb3 GA GB).getD j (fun _ _ => True) x' q) (fun _ => false) (fun f => #[.agg #[.string k, .int .i64 cl, .int .i64 sq, .slice p1 n1 c1, .bool gone, .slice p2 n2 c2, .slice p3 n3 c3], .agg #[.string kb, .int .i64 clb, .int .i64 sqb, .slice pb1 nb1 cb1, .bool goneb, .slice pb2 nb2 cb2, .slice pb3 nb3 cb3], .pointer (some ⟨GA, 0, none⟩), .pointer (some ⟨GB, 0, none⟩), f 4, .pointer (some ⟨GX, 0, none⟩), .pointer (some ⟨GY, 0, none⟩), .agg #[.string k, .int .i64 cl, .int .i64 sq, .slice p1 n1 c1, .bool gone, .slice p2 n2 c2, .slice p3 n3 c3], .agg #[.string k, .int .i64 cl, .int .i64 sq, .slice p1 n1 c1, .bool gone, .slice p2 n2 c2, .slice p3 n3 c3], .agg #[.string kb, .int .i64 clb, .int .i64 sqb, .slice pb1 nb1 cb1, .bool goneb, .slice pb2 nb2 cb2, .slice pb3 nb3 cb3], .agg #[.string kb, .int .i64 clb, .int .i64 sqb, .slice pb1 nb1 cb1, .bool goneb, .slice pb2 nb2 cb2, .slice pb3 nb3 cb3], f 11, f 12, f 13, f 14, f 15, f 16, f 17, f 18, f 19, f 20, f 21, f 22, f 23, f 24, f 25, f 26, f 27, f 28, f 29, f 30]) (fun f => rfl) (by kernel_rfl) (by kernel_rfl) (by kernel_rfl) (by kernel_rfl) (by kernel_rfl) (ovES _ _ _ _ _ _ _ _ _ _ _ _ _ _ _ _ _ _ _ _ _ _ _ _ _ _ _ _) (fun _ _ _ h => by cases h) ?_ ?_
            · refine steps2_cons ?_ ?_
              · intro f w1 hb hd Q hK
                clear hd
                have hK := Lib.hid hK
                go_wp2
                exact hK.out _ _ rfl (Below.refl _ _) (fun h => by cases h)
              refine steps2_cons ?_ ?_
              · intro f w1 hb hd Q hK
                have e11 : f 11 = .pointer (some ⟨GA, 0, none⟩) := hd.1 rfl
                clear hd
                simp only [e11] at hK
                have hK := Lib.hid hK
                have c0 := (hA.below hb).cell 0
                simp only [List.getElem?_toArray, List.getElem?_cons_zero] at c0
                go_wp2
                exact hK.out _ _ rfl (Below.refl _ _) (fun h => by cases h)
              refine steps2_cons ?_ ?_
              · intro f w1 hb hd Q hK
                clear hd
                have hK := Lib.hid hK
                go_wp2
                exact hK.out _ _ rfl (Below.refl _ _) (fun h => by cases h)
              refine steps2_cons ?_ ?_
              · intro f w1 hb hd Q hK
                have e13 : f 13 = .pointer (some ⟨GB, 0, none⟩) := hd.1 rfl
                clear hd
                simp only [e13] at hK
                have hK := Lib.hid hK
                have c0 := (hB.below hb).cell 0
                simp only [List.getElem?_toArray, List.getElem?_cons_zero] at c0
                go_wp2
                exact hK.out _ _ rfl (Below.refl _ _) (fun h => by cases h)
              refine steps2_cons ?_ ?_
              · intro f w1 hb hd Q hK
                have e12 : f 12 = .string k := hd.1 rfl
                have e14 : f 14 = .string kb := hd.2.1 rfl
                clear hd
                simp only [e12, e14] at hK
                have hK := Lib.hid hK
                go_wp2
                exact hK.out _ _ rfl (Below.refl _ _) (fun h => by cases h)
              refine steps2_cons ?_ ?_
              · intro f w1 hb hd Q hK
                have e15 : f 15 = .bool true := hd.1 rfl
                clear hd
                simp only [e15] at hK
                have hK := Lib.hid hK
                go_wp2
                exact hK.out _ _ rfl (Below.refl _ _) (fun h => by cases h)
              refine steps2_cons ?_ ?_
              · intro f w1 hb hd Q hK
                have e16 : f 16 = .bool true := hd.1 rfl
                clear hd
                simp only [e16] at hK
                have hK := Lib.hid hK
                obtain ⟨c0, c1, c2, c3, c4, c5, c6⟩ := blk7 (hX.below hb)
                go_wp2
                exact hK.out _ _ rfl (Below.refl _ _) (fun h => by cases h)
              refine steps2_cons ?_ ?_
              · intro f w1 hb hd Q hK
                have e17 : f 17 = .agg #[.string k, .int .i64 cl, .int .i64 sq, .slice p1 n1 c1, .bool gone, .slice p2 n2 c2, .slice p3 n3 c3] := hd.1 rfl
                have e16 : f 16 = .bool true := hd.2.1 rfl
                clear hd
                simp only [e17, e16] at hK
                have hK := Lib.hid hK
                go_wp2_with fail
                refine (csa.out _ hb).mono ?_
                rintro e w2 ⟨rfl, hb2⟩
                go_wp2
                exact hK.out _ _ rfl hb2 (fun h => by cases h)
              refine steps2_cons ?_ ?_
              · intro f w1 hb hd Q hK
                have e16 : f 16 = .bool true := hd.1 rfl
                have e18 : f 18 = .bool true := hd.2.1 rfl
                clear hd
                simp only [e16, e18] at hK
                have hK := Lib.hid hK
                go_wp2
                exact hK.out _ _ rfl (Below.refl _ _) (fun h => by cases h)
              refine steps2_cons ?_ ?_
              · intro f w1 hb hd Q hK
                have e19 : f 19 = .bool true := hd.1 rfl
                clear hd
                simp only [e19] at hK
                have hK := Lib.hid hK
                go_wp2
                exact hK.out _ _ rfl (Below.refl _ _) (fun h => by cases h)
              refine steps2_cons ?_ ?_
              · intro f w1 hb hd Q hK
                have e20 : f 20 = .bool true := hd.1 rfl
                clear hd
                simp only [e20] at hK
                have hK := Lib.hid hK
                obtain ⟨c0, c1, c2, c3, c4, c5, c6⟩ := blk7 (hY.below hb)
                go_wp2
                exact hK.out _ _ rfl (Below.refl _ _) (fun h => by cases h)
              refine steps2_cons ?_ ?_
              · intro f w1 hb hd Q hK
                have e21 : f 21 = .agg #[.string kb, .int .i64 clb, .int .i64 sqb, .slice pb1 nb1 cb1, .bool goneb, .slice pb2 nb2 cb2, .slice pb3 nb3 cb3] := hd.1 rfl
                have e20 : f 20 = .bool true := hd.2.1 rfl
                clear hd
                simp only [e21, e20] at hK
                have hK := Lib.hid hK
                go_wp2_with fail
                refine (csb.out _ hb).mono ?_
                rintro e w2 ⟨rfl, hb2⟩
                go_wp2
                exact hK.out _ _ rfl hb2 (fun h => by cases h)
              refine steps2_cons ?_ ?_
              · intro f w1 hb hd Q hK
                have e20 : f 20 = .bool true := hd.1 rfl
                have e22 : f 22 = .bool true := hd.2.1 rfl
                clear hd
                simp only [e20, e22] at hK
                have hK := Lib.hid hK
                go_wp2
                exact hK.out _ _ rfl (Below.refl _ _) (fun h => by cases h)
              refine steps2_cons ?_ ?_
              · intro f w1 hb hd Q hK
                have e23 : f 23 = .bool true := hd.1 rfl
                clear hd
                simp only [e23] at hK
                have hK := Lib.hid hK
                go_wp2
                exact hK.out _ _ rfl (Below.refl _ _) (fun h => by cases h)
              refine steps2_cons ?_ ?_
              · intro f w1 hb hd Q hK
                have e24 : f 24 = .bool true := hd.1 rfl
                clear hd
                simp only [e24] at hK
                have hK := Lib.hid hK
                go_wp2
                exact hK.out _ _ rfl (Below.refl _ _) (fun h => by cases h)
              refine steps2_cons ?_ ?_
              · intro f w1 hb hd Q hK
                have e25 : f 25 = .pointer (some ⟨GA, 3, none⟩) := hd.1 rfl
                have e24 : f 24 = .bool true := hd.2.1 rfl
                clear hd
                simp only [e25, e24] at hK
                have hK := Lib.hid hK
                have c0 := (hA.below hb).cell 3
                simp only [List.getElem?_toArray, List.getElem?_cons_zero, List.getElem?_cons_succ] at c0
                go_wp2
                exact hK.out _ _ rfl (Below.refl _ _) (fun h => by cases h)
              refine steps2_cons ?_ ?_
              · intro f w1 hb hd Q hK
                have e24 : f 24 = .bool true := hd.1 rfl
                clear hd
                simp only [e24] at hK
                have hK := Lib.hid hK
                obtain ⟨c0, c1, c2, c3, c4, c5, c6⟩ := blk7 (hY.below hb)
                go_wp2
                exact hK.out _ _ rfl (Below.refl _ _) (fun h => by cases h)
              refine steps2_cons ?_ ?_
              · intro f w1 hb hd Q hK
                have e27 : f 27 = .agg #[.string kb, .int .i64 clb, .int .i64 sqb, .slice pb1 nb1 cb1, .bool goneb, .slice pb2 nb2 cb2, .slice pb3 nb3 cb3] := hd.1 rfl
                have e24 : f 24 = .bool true := hd.2.1 rfl
                clear hd
                simp only [e27, e24] at hK
                have hK := Lib.hid hK
                go_wp2_with fail
                refine (cdot.out _ hb).mono ?_
                rintro e w2 ⟨rfl, hb2⟩
                go_wp2
                exact hK.out _ _ rfl hb2 (fun h => by cases h)
              refine steps2_cons ?_ ?_
              · intro f w1 hb hd Q hK
                have e26 : f 26 = .slice p1 n1 c1 := hd.1 rfl
                have e28 : f 28 = .agg #[.int .i64 clb, .int .i64 sqb] := hd.2.1 rfl
                have e24 : f 24 = .bool true := hd.2.2.2.1 rfl
                clear hd
                simp only [e26, e28, e24] at hK
                have hK := Lib.hid hK
                go_wp2_with fail
                refine (chv.out _ hb).mono ?_
                rintro e w2 ⟨rfl, hb2⟩
                go_wp2
                exact hK.out _ _ rfl hb2 (fun h => by cases h)
              refine steps2_cons ?_ ?_
              · intro f w1 hb hd Q hK
                have e24 : f 24 = .bool true := hd.1 rfl
                have e29 : f 29 = .bool true := hd.2.1 rfl
                clear hd
                simp only [e24, e29] at hK
                have hK := Lib.hid hK
                go_wp2
                exact hK.out _ _ rfl (Below.refl _ _) (fun h => by cases h)
              refine steps2_cons ?_ ?_
              · intro f w1 hb hd Q hK
                have e30 : f 30 = .bool true := hd.1 rfl
                clear hd
                simp only [e30] at hK
                have hK := Lib.hid hK
                go_wp2
                exact hK.out _ _ rfl (Below.refl _ _) (fun h => by cases h)
              trivial
            · intro f2 y1 hb hf hne
              refine wpList_nil ?_
              have d20 : f2 20 = .bool true := hf 9 _ _ (by decide) rfl rfl
              have d4 : f2 4 = .bool true := hf 20 _ _ (by decide) rfl rfl
              clear hf hne
              simp only [d4]
              clear d4 d20
              go_wp2
              go_returns
              exact ⟨by rw [hE.out]; rfl, hb0.trans (hb.mono hb0.size)⟩
    · rw [decide_eq_false hk, Bool.false_and] at hE
      have hkk : (k.toList == kb.toList) = false := beq_false_of_ne hk
      clear csa csb chv cdot hk
      refine wp_region_grow2 21 (fun k => Nat.beq k 4 || (Nat.ble 11 k && Nat.ble k 30)) _ [] (fun j x' q => (ovAL k kb GA GB).getD j (fun _ _ => True) x' q) (fun _ => false) (fun f => #[.agg #[.string k, .int .i64 cl, .int .i64 sq, .slice p1 n1 c1, .bool gone, .slice p2 n2 c2, .slice p3 n3 c3], .agg #[.string kb, .int .i64 clb, .int .i64 sqb, .slice pb1 nb1 cb1, .bool goneb, .slice pb2 nb2 cb2, .slice pb3 nb3 cb3], .pointer (some ⟨GA, 0, none⟩), .pointer (some ⟨GB, 0, none⟩), f 4, .pointer (some ⟨GX, 0, none⟩), .pointer (some ⟨GY, 0, none⟩), .agg #[.string k, .int .i64 cl, .int .i64 sq, .slice p1 n1 c1, .bool gone, .slice p2 n2 c2, .slice p3 n3 c3], .agg #[.string k, .int .i64 cl, .int .i64 sq, .slice p1 n1 c1, .bool gone, .slice p2 n2 c2, .slice p3 n3 c3], .agg #[.string kb, .int .i64 clb, .int .i64 sqb, .slice pb1 nb1 cb1, .bool goneb, .slice pb2 nb2 cb2, .slice pb3 nb3 cb3], .agg #[.string kb, .int .i64 clb, .int .i64 sqb, .slice pb1 nb1 cb1, .bool goneb, .slice pb2 nb2 cb2, .slice pb3 nb3 cb3], f 11, f 12, f 13, f 14, f 15, f 16, f 17, f 18, f 19, f 20, f 21, f 22, f 23, f 24, f 25, f 26, f 27, f 28, f 29, f 30]) (fun f => rfl) (by kernel_rfl) (by kernel_rfl) (by kernel_rfl) (by kernel_rfl) (by kernel_rfl) (ovAS _ _ _ _) (fun _ _ _ h => by cases h) ?_ ?_
      · refine steps2_cons ?_ ?_
        · intro f w1 hb hd Q hK
          clear hd
          have hK := Lib.hid hK
          go_wp2
          exact hK.out _ _ rfl (Below.refl _ _) (fun h => by cases h)
        refine steps2_cons ?_ ?_
        · intro f w1 hb hd Q hK
          have e11 : f 11 = .pointer (some ⟨GA, 0, none⟩) := hd.1 rfl
          clear hd
          simp only [e11] at hK
          have hK := Lib.hid hK
          have c0 := (hA.below hb).cell 0
          simp only [List.getElem?_toArray, List.getElem?_cons_zero] at c0
          go_wp2
          exact hK.out _ _ rfl (Below.refl _ _) (fun h => by cases h)
        refine steps2_cons ?_ ?_
        · intro f w1 hb hd Q hK
          clear hd
          have hK := Lib.hid hK
          go_wp2
          exact hK.out _ _ rfl (Below.refl _ _) (fun h => by cases h)
        refine steps2_cons ?_ ?_
        · intro f w1 hb hd Q hK
          have e13 : f 13 = .pointer (some ⟨GB, 0, none⟩) := hd.1 rfl
          clear hd
          simp only [e13] at hK
          have hK := Lib.hid hK
          have c0 := (hB.below hb).cell 0
          simp only [List.getElem?_toArray, List.getElem?_cons_zero] at c0
          go_wp2
          exact hK.out _ _ rfl (Below.refl _ _) (fun h => by cases h)
        refine steps2_cons ?_ ?_
        · intro f w1 hb hd Q hK
          have e12 : f 12 = .string k := hd.1 rfl
          have e14 : f 14 = .string kb := hd.2.1 rfl
          clear hd
          simp only [e12, e14] at hK
          have hK := Lib.hid hK
          go_wp2
          exact hK.out _ _ rfl (Below.refl _ _) (fun h => by cases h)
        refine steps2_cons ?_ ?_
        · intro f w1 hb hd Q hK
          have e15 : f 15 = .bool false := hd.1 rfl
          clear hd
          simp only [e15] at hK
          have hK := Lib.hid hK
          go_wp2
          exact hK.out _ _ rfl (Below.refl _ _) (fun h => by cases h)
        refine steps2_cons ?_ ?_
        · intro f w1 hb hd Q hK
          have e16 : f 16 = .bool false := hd.1 rfl
          clear hd
          simp only [e16] at hK
          have hK := Lib.hid hK
          go_wp2
          exact hK.out _ _ rfl (Below.refl _ _) (fun h => by cases h)
        refine steps2_cons ?_ ?_
        · intro f w1 hb hd Q hK
          have e17 : f 17 = undef := hd.1 rfl
          have e16 : f 16 = .bool false := hd.2.1 rfl
          clear hd
          simp only [e17, e16] at hK
          have hK := Lib.hid hK
          go_wp2
          exact hK.out _ _ rfl (Below.refl _ _) (fun h => by cases h)
        refine steps2_cons ?_ ?_
        · intro f w1 hb hd Q hK
          have e16 : f 16 = .bool false := hd.1 rfl
          have e18 : f 18 = undef := hd.2.1 rfl
          clear hd
          simp only [e16, e18] at hK
          have hK := Lib.hid hK
          go_wp2
          exact hK.out _ _ rfl (Below.refl _ _) (fun h => by cases h)
        refine steps2_cons ?_ ?_
        · intro f w1 hb hd Q hK
          have e19 : f 19 = .bool false := hd.1 rfl
          clear hd
          simp only [e19] at hK
          have hK := Lib.hid hK
          go_wp2
          exact hK.out _ _ rfl (Below.refl _ _) (fun h => by cases h)
        refine steps2_cons ?_ ?_
        · intro f w1 hb hd Q hK
          have e20 : f 20 = .bool false := hd.1 rfl
          clear hd
          simp only [e20] at hK
          have hK := Lib.hid hK
          go_wp2
          exact hK.out _ _ rfl (Below.refl _ _) (fun h => by cases h)
        refine steps2_cons ?_ ?_
        · intro f w1 hb hd Q hK
          have e21 : f 21 = undef := hd.1 rfl
          have e20 : f 20 = .bool false := hd.2.1 rfl
          clear hd
          simp only [e21, e20] at hK
          have hK := Lib.hid hK
          go_wp2
          exact hK.out _ _ rfl (Below.refl _ _) (fun h => by cases h)
        refine steps2_cons ?_ ?_
        · intro f w1 hb hd Q hK
          have e20 : f 20 = .bool false := hd.1 rfl
          have e22 : f 22 = undef := hd.2.1 rfl
          clear hd
          simp only [e20, e22] at hK
          have hK := Lib.hid hK
          go_wp2
          exact hK.out _ _ rfl (Below.refl _ _) (fun h => by cases h)
        refine steps2_cons ?_ ?_
        · intro f w1 hb hd Q hK
          have e23 : f 23 = .bool false := hd.1 rfl
          clear hd
          simp only [e23] at hK
          have hK := Lib.hid hK
          go_wp2
          exact hK.out _ _ rfl (Below.refl _ _) (fun h => by cases h)
        refine steps2_cons ?_ ?_
        · intro f w1 hb hd Q hK
          have e24 : f 24 = .bool false := hd.1 rfl
          clear hd
          simp only [e24] at hK
          have hK := Lib.hid hK
          go_wp2
          exact hK.out _ _ rfl (Below.refl _ _) (fun h => by cases h)
        refine steps2_cons ?_ ?_
        · intro f w1 hb hd Q hK
          have e25 : f 25 = undef := hd.1 rfl
          have e24 : f 24 = .bool false := hd.2.1 rfl
          clear hd
          simp only [e25, e24] at hK
          have hK := Lib.hid hK
          go_wp2
          exact hK.out _ _ rfl (Below.refl _ _) (fun h => by cases h)
        refine steps2_cons ?_ ?_
        · intro f w1 hb hd Q hK
          have e24 : f 24 = .bool false := hd.1 rfl
          clear hd
          simp only [e24] at hK
          have hK := Lib.hid hK
          go_wp2
          exact hK.out _ _ rfl (Below.refl _ _) (fun h => by cases h)
        refine steps2_cons ?_ ?_
        · intro f w1 hb hd Q hK
          have e27 : f 27 = undef := hd.1 rfl
          have e24 : f 24 = .bool false := hd.2.1 rfl
          clear hd
          simp only [e27, e24] at hK
          have hK := Lib.hid hK
          go_wp2
          exact hK.out _ _ rfl (Below.refl _ _) (fun h => by cases h)
        refine steps2_cons ?_ ?_
        · intro f w1 hb hd Q hK
          have e26 : f 26 = undef := hd.1 rfl
          have e28 : f 28 = undef := hd.2.1 rfl
          have e24 : f 24 = .bool false := hd.2.2.2.1 rfl
          clear hd
          simp only [e26, e28, e24] at hK
          have hK := Lib.hid hK
          go_wp2
          exact hK.out _ _ rfl (Below.refl _ _) (fun h => by cases h)
        refine steps2_cons ?_ ?_
        · intro f w1 hb hd Q hK
          have e24 : f 24 = .bool false := hd.1 rfl
          have e29 : f 29 = undef := hd.2.1 rfl
          clear hd
          simp only [e24, e29] at hK
          have hK := Lib.hid hK
          go_wp2
          exact hK.out _ _ rfl (Below.refl _ _) (fun h => by cases h)
        refine steps2_cons ?_ ?_
        · intro f w1 hb hd Q hK
          have e30 : f 30 = .bool false := hd.1 rfl
          clear hd
          simp only [e30] at hK
          have hK := Lib.hid hK
          go_wp2
          exact hK.out _ _ rfl (Below.refl _ _) (fun h => by cases h)
        trivial
      · intro f2 y1 hb hf hne
        refine wpList_nil ?_
        have d20 : f2 20 = .bool false := hf 9 _ _ (by decide) rfl rfl
        have d4 : f2 4 = .bool false := hf 20 _ _ (by decide) rfl rfl
        clear hf hne
        simp only [d4]
        clear d4 d20
        go_wp2
        go_returns
        exact ⟨by rw [hE.out]; rfl, hb0.trans (hb.mono hb0.size)⟩
end Go.Proofs.YtiimojhdpmkeoaaGreat
