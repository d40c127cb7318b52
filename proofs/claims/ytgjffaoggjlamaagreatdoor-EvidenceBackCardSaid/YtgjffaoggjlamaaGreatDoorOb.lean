/- bytes.Compare of two rows of bytes. evidence: all of two roots. evidence: order, own, Right, Of. evidence: own, of a root that is right. evidence: pairOf, Right, Of where there is none. -/
import Derived.Test.YtgjffaoggjlamaaGreatDoorOa
import Derived.Lib.BytesEntry
namespace Cmp
open Go
theorem self : ∀ l : List UInt8, Lib.compareBytes l l = 0
  | [] => rfl
  | a :: l => by
    unfold Lib.compareBytes
    rw [if_neg (UInt8.lt_irrefl a), if_neg (UInt8.lt_irrefl a)]
    exact self l
theorem neg : ∀ l m : List UInt8, Lib.compareBytes m l = - Lib.compareBytes l m
  | [], [] => rfl
  | [], _ :: _ => rfl
  | _ :: _, [] => rfl
  | a :: l, b :: m => by
    have ih := neg l m
    unfold Lib.compareBytes
    by_cases h1 : a < b
    · rw [if_pos h1, if_neg (UInt8.lt_asymm h1), if_pos h1]; decide
    · by_cases h2 : b < a
      · rw [if_pos h2, if_neg h1, if_pos h2]
      · rw [if_neg h1, if_neg h2, if_neg h2, if_neg h1]
        exact ih
theorem zero : ∀ l m : List UInt8, Lib.compareBytes l m = 0 → l = m
  | [], [], _ => rfl
  | [], _ :: _, h => by simp [Lib.compareBytes] at h
  | _ :: _, [], h => by simp [Lib.compareBytes] at h
  | a :: l, b :: m, h => by
    unfold Lib.compareBytes at h
    by_cases h1 : a < b
    · rw [if_pos h1] at h; cases h
    · by_cases h2 : b < a
      · rw [if_neg h1, if_pos h2] at h; cases h
      · rw [if_neg h1, if_neg h2] at h
        have e : a = b := UInt8.le_antisymm (UInt8.not_lt.1 h2) (UInt8.not_lt.1 h1)
        rw [e, zero l m h]
theorem three : ∀ l m : List UInt8, Lib.compareBytes l m = -1 ∨ Lib.compareBytes l m = 0 ∨ Lib.compareBytes l m = 1
  | [], [] => .inr (.inl rfl)
  | [], _ :: _ => .inl rfl
  | _ :: _, [] => .inr (.inr rfl)
  | a :: l, b :: m => by
    unfold Lib.compareBytes
    by_cases h1 : a < b
    · exact .inl (if_pos h1)
    · by_cases h2 : b < a
      · rw [if_neg h1, if_pos h2]; exact .inr (.inr rfl)
      · rw [if_neg h1, if_neg h2]; exact three l m
end Cmp
namespace Go.Proofs.YtgjffaoggjlamaaGreatDoor
open Go Go.RowKit
def bls (n : Nat) (a : Nat → Int) : List Int := (List.range n).map a
theorem bls_len (n : Nat) (a : Nat → Int) : (bls n a).length = n := by simp [bls]
theorem bls_get (n : Nat) (a : Nat → Int) (j : Nat) (x : Int) (h : (bls n a)[j]? = some x) : j < n ∧ x = a j := by
  have hj : j < n := by have := (List.getElem?_eq_some_iff.1 h).1; rwa [bls_len] at this
  refine ⟨hj, ?_⟩
  unfold bls at h
  rw [List.getElem?_map, List.getElem?_range hj] at h
  simpa using h.symm
/-- -1, 0 or 1 -/
def cmpI (n : Nat) (a : Nat → Int) (m : Nat) (b : Nat → Int) : Int := Lib.compareBytes (Lib.bytesOf (bls n a)) (Lib.bytesOf (bls m b))
theorem cmpI_self (n : Nat) (a : Nat → Int) : cmpI n a n a = 0 := Cmp.self _
theorem cmpI_neg (n : Nat) (a : Nat → Int) (m : Nat) (b : Nat → Int) : cmpI m b n a = - cmpI n a m b := Cmp.neg _ _
theorem cmpI_three (n : Nat) (a : Nat → Int) (m : Nat) (b : Nat → Int) : cmpI n a m b = -1 ∨ cmpI n a m b = 0 ∨ cmpI n a m b = 1 := Cmp.three _ _
theorem cmpI_zero (n : Nat) (a b : Nat → Int) (ha : Sc.Byt a) (hb : Sc.Byt b) (h : cmpI n a n b = 0) (j : Nat) (hj : j < n) : a j = b j := by
  have h1 := Cmp.zero _ _ h
  have h2 := congrArg (fun l => l[j]?) h1
  simp only [Lib.bytesOf, bls, List.getElem?_map, List.getElem?_range hj, Option.map_some, Option.some.injEq] at h2
  have h3 := congrArg UInt8.toNat h2
  have q1 := ha j
  have q2 := hb j
  have e : ∀ x : Int, 0 ≤ x ∧ x < 256 → x.toNat.toUInt8.toNat = x.toNat := fun x hx => by
    show x.toNat % 256 = x.toNat
    omega
  have h4 : (a j).toNat = (b j).toNat := by rw [← e _ q1, ← e _ q2]; exact h3
  omega
theorem cmpI_congr {n m : Nat} {a a' b b' : Nat → Int} (h1 : ∀ j, j < n → a j = a' j) (h2 : ∀ j, j < m → b j = b' j) : cmpI n a m b = cmpI n a' m b' := by
  have e : ∀ (n : Nat) (a a' : Nat → Int), (∀ j, j < n → a j = a' j) → bls n a = bls n a' := fun n a a' h => by
    unfold bls
    exact List.map_congr_left (fun j hj => h j (List.mem_range.1 hj))
  unfold cmpI
  rw [e n a a' h1, e m b b' h2]
theorem run_bytesX (w : World) (g o n c : Nat) (a : Nat → Int) (hc : ∀ j, j < n → w.cell? ⟨g, o + j, none⟩ = some (.int .u8 (a j))) : (Extern.Bytes.bytesOf (.slice (some ⟨g, o, none⟩) n c)).run Tryz.prog w = .ok ⟨(Lib.bytesOf (bls n a)).toArray⟩ w := by
  have hl := Lib.run_loadBytesX (P := Tryz.prog) w (bls n a) ⟨g, o, none⟩ .empty (fun j x hj => by
    obtain ⟨h1, rfl⟩ := bls_get n a j x hj
    rw [add_o]
    exact hc j h1)
  rw [bls_len] at hl
  show (Extern.Bytes.loadBytes ⟨g, o, none⟩ n .empty).run Tryz.prog w = _
  rw [hl]
  congr 1
  apply ByteArray.ext
  show (#[] : Array UInt8) ++ _ = _
  simp
theorem run_compare (w : World) (g o n c g' o' n' c' : Nat) (a b : Nat → Int) (hc : ∀ j, j < n → w.cell? ⟨g, o + j, none⟩ = some (.int .u8 (a j))) (hc' : ∀ j, j < n' → w.cell? ⟨g', o' + j, none⟩ = some (.int .u8 (b j))) :
    (Extern.BytealgCompare.compare #[.slice (some ⟨g, o, none⟩) n c, .slice (some ⟨g', o', none⟩) n' c']).run Tryz.prog w = .ok (.int .i64 (cmpI n a n' b)) w := by
  change Sem.run Tryz.prog (do pure (goInt (Extern.BytealgCompare.cmp (← Extern.Bytes.bytesOf (.slice (some ⟨g, o, none⟩) n c)) (← Extern.Bytes.bytesOf (.slice (some ⟨g', o', none⟩) n' c'))))) w = _
  simp only [Sem.run_bind, Sem.run_pure, run_bytesX w g o n c a hc, run_bytesX w g' o' n' c' b hc', Result.andThen]
  rw [Lib.cmp_eq]
  rfl
set_option maxRecDepth 20000 in
set_option maxHeartbeats 1000000 in
theorem Compare_c (g o n c g' o' n' c' : Nat) (a b : Nat → Int) (w : World) (hc : ∀ j, j < n → w.cell? ⟨g, o + j, none⟩ = some (.int .u8 (a j))) (hc' : ∀ j, j < n' → w.cell? ⟨g', o' + j, none⟩ = some (.int .u8 (b j))) : Calls Tryz.prog 136 #[.slice (some ⟨g, o, none⟩) n c, .slice (some ⟨g', o', none⟩) n' c'] w fun e w' => e = .returned (.int .i64 (cmpI n a n' b)) ∧ w = w' := by
  have hrun := Lib.hid (run_compare w g o n c g' o' n' c' a b hc hc')
  clear hc hc'
  go_enter Tryz.func136, Tryz.ntmps136
  go_wp2
  rw [run_callFunc_extern Tryz.func193 (by kernel_rfl) (by kernel_rfl) (by kernel_rfl) (e := Extern.BytealgCompare.compare) (by kernel_rfl), hrun.out]
  simp only [Result.andThen]
  rw [Oper.upon_value]
  go_wp2
  go_returns
  exact ⟨rfl, rfl⟩
end Go.Proofs.YtgjffaoggjlamaaGreatDoor

namespace Go.Proofs.YtgjffaoggjlamaaGreatDoor
open Go Go.RowKit
theorem blk10v {w : World} {g : Nat} {t : TypeId} {x0 x1 x2 x3 x4 y0 y1 y2 y3 y4 : Value} (h : Blk w g t #[x0, x1, x2, x3, x4, y0, y1, y2, y3, y4]) : (w.cell? ⟨g, 0, none⟩ = some x0 ∧ w.cell? ⟨g, 1, none⟩ = some x1 ∧ w.cell? ⟨g, 2, none⟩ = some x2 ∧ w.cell? ⟨g, 3, none⟩ = some x3 ∧ w.cell? ⟨g, 4, none⟩ = some x4) ∧ w.cell? ⟨g, 5, none⟩ = some y0 ∧ w.cell? ⟨g, 6, none⟩ = some y1 ∧ w.cell? ⟨g, 7, none⟩ = some y2 ∧ w.cell? ⟨g, 8, none⟩ = some y3 ∧ w.cell? ⟨g, 9, none⟩ = some y4 := ⟨⟨h.cell 0, h.cell 1, h.cell 2, h.cell 3, h.cell 4⟩, h.cell 5, h.cell 6, h.cell 7, h.cell 8, h.cell 9⟩
set_option maxRecDepth 20000 in
set_option maxHeartbeats 4000000 in
theorem index2_c (gR cb : Nat) (r1 s1 q1 : Int) (p1 : Option Addr) (n1 c1 : Nat) (t1 : Option Addr) (m1 d1 : Nat) (r2 s2 q2 : Int) (p2 : Option Addr) (n2 c2 : Nat) (t2 : Option Addr) (m2 d2 : Nat) (A B : Bool) (w : World) (hR : Blk w gR 28 #[.int .i64 r1, .int .i64 s1, .int .i64 q1, .slice p1 n1 c1, .slice t1 m1 d1, .int .i64 r2, .int .i64 s2, .int .i64 q2, .slice p2 n2 c2, .slice t2 m2 d2])
    (hF : ∀ w', Below w.heap.size w w' → Calls Tryz.prog 158 #[.agg #[.int .i64 r1, .int .i64 s1, .int .i64 q1, .slice p1 n1 c1, .slice t1 m1 d1], .pointer (some ⟨cb, 0, none⟩)] w' (PostV (.bool A) w'))
    (hG : ∀ w', Below w.heap.size w w' → Calls Tryz.prog 158 #[.agg #[.int .i64 r2, .int .i64 s2, .int .i64 q2, .slice p2 n2 c2, .slice t2 m2 d2], .pointer (some ⟨cb, 0, none⟩)] w' (PostV (.bool B) w')) :
    Calls Tryz.prog 185 #[.slice (some ⟨gR, 0, none⟩) 2 2, .func (.func 158) #[] #[.pointer (some ⟨cb, 0, none⟩)]] w fun e w' => (∃ x : Int, e = .returned (.int .i64 x) ∧ decide (0 ≤ x) = (A || B)) ∧ Below w.heap.size w w' := by
  replace hF := Lib.hid hF
  replace hG := Lib.hid hG
  go_enter Tryz.func185, Tryz.ntmps185
  go_wp2
  go_loopw [8] (fun i wr => Below w.heap.size w wr ∧ (i = .int .i64 0 ∨ (i = .int .i64 1 ∧ A = false) ∨ (i = .int .i64 2 ∧ A = false ∧ B = false))) (fun i _ => (2 - intOf i).toNat)
  case atStart => exact ⟨Below.refl _ _, .inl rfl⟩
  case round =>
    obtain ⟨hb, hi⟩ := hrel
    have hRw := hR.below hb
    rcases hi with rfl | ⟨rfl, hA⟩ | ⟨rfl, hA, hB⟩
    · obtain ⟨⟨y0, y1, y2, y3, y4⟩, _⟩ := blk10v hRw
      clear hRw hG hR
      go_wp2_with fail
      refine (hF.out _ hb).mono ?_
      rintro e w2 ⟨rfl, hb2⟩
      have hb3 : Below w.heap.size w w2 := hb.trans (hb2.mono hb.size)
      clear hF y0 y1 y2 y3 y4 hb hb2
      cases A
      · go_wp2
        exact ⟨⟨hb3, by simp⟩, by simp [intOf]⟩
      · go_wp2
        go_returns
        exact ⟨⟨_, rfl, by simp⟩, hb3⟩
    · obtain ⟨_, y0, y1, y2, y3, y4⟩ := blk10v hRw
      subst hA
      clear hRw hF hR
      go_wp2_with fail
      refine (hG.out _ hb).mono ?_
      rintro e w2 ⟨rfl, hb2⟩
      have hb3 : Below w.heap.size w w2 := hb.trans (hb2.mono hb.size)
      clear hG y0 y1 y2 y3 y4 hb hb2
      cases B
      · go_wp2
        exact ⟨⟨hb3, by simp⟩, by simp [intOf]⟩
      · go_wp2
        go_returns
        exact ⟨⟨_, rfl, by simp⟩, hb3⟩
    · subst hA hB
      clear hRw hF hG hR
      go_wp2
      go_returns
      exact ⟨⟨-1, rfl, rfl⟩, hb⟩
set_option maxRecDepth 20000 in
set_option maxHeartbeats 4000000 in
theorem contains2_c (gR cb : Nat) (r1 s1 q1 : Int) (p1 : Option Addr) (n1 c1 : Nat) (t1 : Option Addr) (m1 d1 : Nat) (r2 s2 q2 : Int) (p2 : Option Addr) (n2 c2 : Nat) (t2 : Option Addr) (m2 d2 : Nat) (A B : Bool) (w : World) (hR : Blk w gR 28 #[.int .i64 r1, .int .i64 s1, .int .i64 q1, .slice p1 n1 c1, .slice t1 m1 d1, .int .i64 r2, .int .i64 s2, .int .i64 q2, .slice p2 n2 c2, .slice t2 m2 d2])
    (hF : ∀ w', Below w.heap.size w w' → Calls Tryz.prog 158 #[.agg #[.int .i64 r1, .int .i64 s1, .int .i64 q1, .slice p1 n1 c1, .slice t1 m1 d1], .pointer (some ⟨cb, 0, none⟩)] w' (PostV (.bool A) w'))
    (hG : ∀ w', Below w.heap.size w w' → Calls Tryz.prog 158 #[.agg #[.int .i64 r2, .int .i64 s2, .int .i64 q2, .slice p2 n2 c2, .slice t2 m2 d2], .pointer (some ⟨cb, 0, none⟩)] w' (PostV (.bool B) w')) :
    Calls Tryz.prog 157 #[.slice (some ⟨gR, 0, none⟩) 2 2, .func (.func 158) #[] #[.pointer (some ⟨cb, 0, none⟩)]] w (PostV (.bool (A || B)) w) := by
  have hi := Lib.hid (index2_c gR cb r1 s1 q1 p1 n1 c1 t1 m1 d1 r2 s2 q2 p2 n2 c2 t2 m2 d2 A B w hR hF hG)
  clear hF hG hR
  go_enter Tryz.func157, Tryz.ntmps157
  go_wp2_with fail
  refine hi.out.mono ?_
  rintro e w2 ⟨⟨x, rfl, hx⟩, hb2⟩
  replace hx := Lib.hid hx
  clear hi
  go_wp2
  go_returns
  exact ⟨by rw [← hx.out]; rfl, hb2⟩
set_option maxRecDepth 20000 in
set_option maxHeartbeats 4000000 in
/-- whatever is asked of the two roots -/
theorem all_c (fn : Fn) (fx fy : Array Value) (gR : Nat) (r1 s1 q1 : Int) (p1 : Option Addr) (n1 c1 : Nat) (t1 : Option Addr) (m1 d1 : Nat) (r2 s2 q2 : Int) (p2 : Option Addr) (n2 c2 : Nat) (t2 : Option Addr) (m2 d2 : Nat) (A B : Bool) (w : World) (hR : Blk w gR 28 #[.int .i64 r1, .int .i64 s1, .int .i64 q1, .slice p1 n1 c1, .slice t1 m1 d1, .int .i64 r2, .int .i64 s2, .int .i64 q2, .slice p2 n2 c2, .slice t2 m2 d2])
    (hF : ∀ cb w', Below w.heap.size w w' → Blk w' cb 42 #[.func fn fx fy] → Calls Tryz.prog 158 #[.agg #[.int .i64 r1, .int .i64 s1, .int .i64 q1, .slice p1 n1 c1, .slice t1 m1 d1], .pointer (some ⟨cb, 0, none⟩)] w' (PostV (.bool (!A)) w'))
    (hG : ∀ cb w', Below w.heap.size w w' → Blk w' cb 42 #[.func fn fx fy] → Calls Tryz.prog 158 #[.agg #[.int .i64 r2, .int .i64 s2, .int .i64 q2, .slice p2 n2 c2, .slice t2 m2 d2], .pointer (some ⟨cb, 0, none⟩)] w' (PostV (.bool (!B)) w')) :
    Calls Tryz.prog 105 #[.func fn fx fy, .slice (some ⟨gR, 0, none⟩) 2 2] w (PostV (.bool (A && B)) w) := by
  have hmf : ∀ (fn : Fn) (first cap : Array Value) (w : World), (Instr.makeFunc fn first cap).run Tryz.prog w = .ok (.func fn first cap) w := fun _ _ _ _ => rfl
  have hc := Lib.hid (fun cb w1 (hb : Below w.heap.size w w1) (hB : Blk w1 cb 42 #[.func fn fx fy]) => contains2_c gR cb r1 s1 q1 p1 n1 c1 t1 m1 d1 r2 s2 q2 p2 n2 c2 t2 m2 d2 (!A) (!B) w1 (hR.below hb) (fun w' hb2 => hF cb w' (hb.trans (hb2.mono hb.size)) (hB.below hb2)) (fun w' hb2 => hG cb w' (hb.trans (hb2.mono hb.size)) (hB.below hb2)))
  clear hF hG hR
  go_enter Tryz.func105, Tryz.ntmps105
  go_wp2_with fail
  refine calls_at (fun W0 hW => ?_)
  have hB : Blk W0 w.heap.size 42 #[.func fn fx fy] := by rw [hW]; exact Blk.new _ _ _
  have hb0 : Below w.heap.size w W0 := by rw [hW]; go_grown
  clear hW
  refine (hc.out _ W0 hb0 hB).mono ?_
  rintro e w2 ⟨rfl, hb2⟩
  have hb := hb0.trans (hb2.mono hb0.size)
  clear hc hB hb2
  go_wp2
  go_returns
  exact ⟨by cases A <;> cases B <;> rfl, hb⟩
set_option maxRecDepth 20000 in
set_option maxHeartbeats 4000000 in
/-- the closure over Right -/
theorem allR_c (cb : Nat) (r1 s1 q1 : Int) (p1 : Option Addr) (n1 c1 : Nat) (t1 : Option Addr) (m1 d1 : Nat) (w : World) (hB : Blk w cb 42 #[.func (.func 27) #[] #[]]) :
    Calls Tryz.prog 158 #[.agg #[.int .i64 r1, .int .i64 s1, .int .i64 q1, .slice p1 n1 c1, .slice t1 m1 d1], .pointer (some ⟨cb, 0, none⟩)] w (PostV (.bool (!(shT r1 s1 q1 n1 && decide (m1 = 64)))) w) := by
  have hr := Lib.hid (fun w1 => Right_c r1 s1 q1 p1 n1 c1 t1 m1 d1 w1)
  generalize (shT r1 s1 q1 n1 && decide (m1 = 64)) = E at *
  have x0 : w.cell? ⟨cb, 0, none⟩ = some (.func (.func 27) #[] #[]) := hB.cell 0
  have hl := hB.lt
  clear hB
  go_enter Tryz.func158, Tryz.ntmps158
  go_wp2_with fail
  refine calls_at (fun W0 hW => ?_)
  have hb0 : Below w.heap.size w W0 := by rw [hW]; go_grown
  clear hW
  refine (hr.out W0).mono ?_
  rintro e w2 ⟨rfl, hb2⟩
  have hb := hb0.trans (hb2.mono hb0.size)
  clear hr hb2 x0
  go_wp2
  go_returns
  exact ⟨rfl, hb⟩
end Go.Proofs.YtgjffaoggjlamaaGreatDoor

namespace Go.Proofs.YtgjffaoggjlamaaGreatDoor
open Go Go.RowKit
/-- -1: right evidence; 1: it is the other way round; else 0 -/
def ordI (r1 s1 q1 : Int) (n1 m1 : Nat) (S1 : Nat → Int) (r2 s2 q2 : Int) (n2 m2 : Nat) (S2 : Nat → Int) : Int := if ((shT r1 s1 q1 n1 && decide (m1 = 64)) && (shT r2 s2 q2 n2 && decide (m2 = 64))) && (decide (r1 = r2) && (decide (s1 = s2) && decide (q1 = q2))) then cmpI 64 S1 64 S2 else 0
set_option maxRecDepth 20000 in
set_option maxHeartbeats 8000000 in
theorem eorder_c (r1 s1 q1 : Int) (p1 : Option Addr) (n1 c1 : Nat) (t1 : Option Addr) (m1 d1 : Nat) (r2 s2 q2 : Int) (p2 : Option Addr) (n2 c2 : Nat) (t2 : Option Addr) (m2 d2 : Nat) (S1 S2 : Nat → Int) (w : World) (hX1 : BX [] w p1 n1 S1) (hX2 : BX [] w p2 n2 S2) :
    Calls Tryz.prog 71 #[.agg #[.int .i64 r1, .int .i64 s1, .int .i64 q1, .slice p1 n1 c1, .slice t1 m1 d1, .int .i64 r2, .int .i64 s2, .int .i64 q2, .slice p2 n2 c2, .slice t2 m2 d2]] w (PostV (.int .i64 (ordI r1 s1 q1 n1 m1 S1 r2 s2 q2 n2 m2 S2)) w) := by
  have hall := fun gR w1 (hR : Blk w1 gR 28 #[.int .i64 r1, .int .i64 s1, .int .i64 q1, .slice p1 n1 c1, .slice t1 m1 d1, .int .i64 r2, .int .i64 s2, .int .i64 q2, .slice p2 n2 c2, .slice t2 m2 d2]) => all_c (.func 27) #[] #[] gR r1 s1 q1 p1 n1 c1 t1 m1 d1 r2 s2 q2 p2 n2 c2 t2 m2 d2 (shT r1 s1 q1 n1 && decide (m1 = 64)) (shT r2 s2 q2 n2 && decide (m2 = 64)) w1 hR (fun cb w2 _ hB => allR_c cb r1 s1 q1 p1 n1 c1 t1 m1 d1 w2 hB) (fun cb w2 _ hB => allR_c cb r2 s2 q2 p2 n2 c2 t2 m2 d2 w2 hB)
  obtain ⟨O, hO⟩ : ∃ O, O = ordI r1 s1 q1 n1 m1 S1 r2 s2 q2 n2 m2 S2 := ⟨_, rfl⟩
  rw [← hO]
  unfold ordI at hO
  have hyes : ((shT r1 s1 q1 n1 && decide (m1 = 64)) && (shT r2 s2 q2 n2 && decide (m2 = 64))) = true → n1 = 64 ∧ n2 = 64 := fun h => by
    rw [Bool.and_eq_true, Bool.and_eq_true, Bool.and_eq_true] at h
    exact ⟨(shT_true h.1.1).2.2.2.2.2.2, (shT_true h.2.1).2.2.2.2.2.2⟩
  generalize ((shT r1 s1 q1 n1 && decide (m1 = 64)) && (shT r2 s2 q2 n2 && decide (m2 = 64))) = AB at *
  replace hall := Lib.hid hall
  by_cases h0 : AB = false
  · subst h0
    have hO0 : O = 0 := by rw [hO]; rfl
    subst hO0
    clear hO hyes hX1 hX2
    go_enter Tryz.func71, Tryz.ntmps71
    go_wp2_with fail
    refine calls_at (fun W0 hW => ?_)
    have hP : Blk W0 w.heap.size 108 #[.int .i64 r1, .int .i64 s1, .int .i64 q1, .slice p1 n1 c1, .slice t1 m1 d1, .int .i64 r2, .int .i64 s2, .int .i64 q2, .slice p2 n2 c2, .slice t2 m2 d2] := by rw [hW]; exact ((Blk.new _ _ _).alloc _).alloc _
    have hQ : Blk W0 (w.heap.size + 1) 28 #[.int .i64 r2, .int .i64 s2, .int .i64 q2, .slice p2 n2 c2, .slice t2 m2 d2] := by rw [hW]; exact (blk_at (by simp) (Blk.new _ _ _)).alloc _
    have hR : Blk W0 (w.heap.size + 2) 28 #[.int .i64 r1, .int .i64 s1, .int .i64 q1, .slice p1 n1 c1, .slice t1 m1 d1, .int .i64 r2, .int .i64 s2, .int .i64 q2, .slice p2 n2 c2, .slice t2 m2 d2] := by rw [hW]; exact blk_at (by simp) (Blk.new _ _ _)
    have hb0 : Below w.heap.size w W0 := by rw [hW]; go_grown
    clear hW
    refine (hall.out _ W0 hR).mono ?_
    rintro e w2 ⟨rfl, hb2⟩
    replace hP := hP.below hb2
    replace hQ := hQ.below hb2
    replace hb0 := hb0.trans (hb2.mono hb0.size)
    clear hb2 hR hall
    obtain ⟨⟨y0, y1, y2, y3, y4⟩, y5, y6, y7, y8, y9⟩ := blk10v hP
    obtain ⟨z0, z1, z2, z3, z4⟩ := blk5v hQ
    go_wp2_with fail
    go_returns
    exact ⟨rfl, hb0⟩
  have hAB : AB = true := by cases AB <;> simp_all
  subst hAB
  obtain ⟨rfl, rfl⟩ := hyes rfl
  clear h0 hyes
  by_cases h1 : r1 = r2
  · by_cases h2 : s1 = s2
    · by_cases h3 : q1 = q2
      · subst h1 h2 h3
        have hO1 : O = cmpI 64 S1 64 S2 := by rw [hO]; simp
        obtain ⟨g1, o1, rfl, hg1, -, hc1⟩ := hX1 (by decide)
        obtain ⟨g2, o2, rfl, hg2, -, hc2⟩ := hX2 (by decide)
        have hcm := fun w1 (hb : Below w.heap.size w w1) => Compare_c g1 o1 64 c1 g2 o2 64 c2 S1 S2 w1 (fun j hj => (hb.cell (p := ⟨g1, o1 + j, none⟩) hg1).trans (hc1 j hj)) (fun j hj => (hb.cell (p := ⟨g2, o2 + j, none⟩) hg2).trans (hc2 j hj))
        rw [← hO1] at hcm
        replace hcm := Lib.hid hcm
        clear hO hO1 hX1 hX2 hc1 hc2 hg1 hg2
        go_enter Tryz.func71, Tryz.ntmps71
        go_wp2_with fail
        refine calls_at (fun W0 hW => ?_)
        have hP : Blk W0 w.heap.size 108 #[.int .i64 r1, .int .i64 s1, .int .i64 q1, .slice (some ⟨g1, o1, none⟩) 64 c1, .slice t1 m1 d1, .int .i64 r1, .int .i64 s1, .int .i64 q1, .slice (some ⟨g2, o2, none⟩) 64 c2, .slice t2 m2 d2] := by rw [hW]; exact ((Blk.new _ _ _).alloc _).alloc _
        have hQ : Blk W0 (w.heap.size + 1) 28 #[.int .i64 r1, .int .i64 s1, .int .i64 q1, .slice (some ⟨g2, o2, none⟩) 64 c2, .slice t2 m2 d2] := by rw [hW]; exact (blk_at (by simp) (Blk.new _ _ _)).alloc _
        have hR : Blk W0 (w.heap.size + 2) 28 #[.int .i64 r1, .int .i64 s1, .int .i64 q1, .slice (some ⟨g1, o1, none⟩) 64 c1, .slice t1 m1 d1, .int .i64 r1, .int .i64 s1, .int .i64 q1, .slice (some ⟨g2, o2, none⟩) 64 c2, .slice t2 m2 d2] := by rw [hW]; exact blk_at (by simp) (Blk.new _ _ _)
        have hb0 : Below w.heap.size w W0 := by rw [hW]; go_grown
        clear hW
        refine (hall.out _ W0 hR).mono ?_
        rintro e w2 ⟨rfl, hb2⟩
        replace hP := hP.below hb2
        replace hQ := hQ.below hb2
        replace hb0 := hb0.trans (hb2.mono hb0.size)
        clear hb2 hR hall
        obtain ⟨⟨y0, y1, y2, y3, y4⟩, y5, y6, y7, y8, y9⟩ := blk10v hP
        obtain ⟨z0, z1, z2, z3, z4⟩ := blk5v hQ
        go_wp2_with fail
        refine (hcm.out _ hb0).mono ?_
        rintro e w3 ⟨rfl, rfl⟩
        clear hcm
        go_wp2_with fail
        go_returns
        exact ⟨rfl, hb0⟩
      · subst h1 h2
        have hO0 : O = 0 := by rw [hO]; simp [h3]
        subst hO0
        clear hO hX1 hX2
        go_enter Tryz.func71, Tryz.ntmps71
        go_wp2_with fail
        refine calls_at (fun W0 hW => ?_)
        have hP : Blk W0 w.heap.size 108 #[.int .i64 r1, .int .i64 s1, .int .i64 q1, .slice p1 64 c1, .slice t1 m1 d1, .int .i64 r1, .int .i64 s1, .int .i64 q2, .slice p2 64 c2, .slice t2 m2 d2] := by rw [hW]; exact ((Blk.new _ _ _).alloc _).alloc _
        have hQ : Blk W0 (w.heap.size + 1) 28 #[.int .i64 r1, .int .i64 s1, .int .i64 q2, .slice p2 64 c2, .slice t2 m2 d2] := by rw [hW]; exact (blk_at (by simp) (Blk.new _ _ _)).alloc _
        have hR : Blk W0 (w.heap.size + 2) 28 #[.int .i64 r1, .int .i64 s1, .int .i64 q1, .slice p1 64 c1, .slice t1 m1 d1, .int .i64 r1, .int .i64 s1, .int .i64 q2, .slice p2 64 c2, .slice t2 m2 d2] := by rw [hW]; exact blk_at (by simp) (Blk.new _ _ _)
        have hb0 : Below w.heap.size w W0 := by rw [hW]; go_grown
        clear hW
        refine (hall.out _ W0 hR).mono ?_
        rintro e w2 ⟨rfl, hb2⟩
        replace hP := hP.below hb2
        replace hQ := hQ.below hb2
        replace hb0 := hb0.trans (hb2.mono hb0.size)
        clear hb2 hR hall
        obtain ⟨⟨y0, y1, y2, y3, y4⟩, y5, y6, y7, y8, y9⟩ := blk10v hP
        obtain ⟨z0, z1, z2, z3, z4⟩ := blk5v hQ
        go_wp2_with fail
        go_returns
        exact ⟨rfl, hb0⟩
    · subst h1
      have hO0 : O = 0 := by rw [hO]; simp [h2]
      subst hO0
      clear hO hX1 hX2
      go_enter Tryz.func71, Tryz.ntmps71
      go_wp2_with fail
      refine calls_at (fun W0 hW => ?_)
      have hP : Blk W0 w.heap.size 108 #[.int .i64 r1, .int .i64 s1, .int .i64 q1, .slice p1 64 c1, .slice t1 m1 d1, .int .i64 r1, .int .i64 s2, .int .i64 q2, .slice p2 64 c2, .slice t2 m2 d2] := by rw [hW]; exact ((Blk.new _ _ _).alloc _).alloc _
      have hQ : Blk W0 (w.heap.size + 1) 28 #[.int .i64 r1, .int .i64 s2, .int .i64 q2, .slice p2 64 c2, .slice t2 m2 d2] := by rw [hW]; exact (blk_at (by simp) (Blk.new _ _ _)).alloc _
      have hR : Blk W0 (w.heap.size + 2) 28 #[.int .i64 r1, .int .i64 s1, .int .i64 q1, .slice p1 64 c1, .slice t1 m1 d1, .int .i64 r1, .int .i64 s2, .int .i64 q2, .slice p2 64 c2, .slice t2 m2 d2] := by rw [hW]; exact blk_at (by simp) (Blk.new _ _ _)
      have hb0 : Below w.heap.size w W0 := by rw [hW]; go_grown
      clear hW
      refine (hall.out _ W0 hR).mono ?_
      rintro e w2 ⟨rfl, hb2⟩
      replace hP := hP.below hb2
      replace hQ := hQ.below hb2
      replace hb0 := hb0.trans (hb2.mono hb0.size)
      clear hb2 hR hall
      obtain ⟨⟨y0, y1, y2, y3, y4⟩, y5, y6, y7, y8, y9⟩ := blk10v hP
      obtain ⟨z0, z1, z2, z3, z4⟩ := blk5v hQ
      go_wp2_with fail
      go_returns
      exact ⟨rfl, hb0⟩
  · have hO0 : O = 0 := by rw [hO]; simp [h1]
    subst hO0
    clear hO hX1 hX2
    go_enter Tryz.func71, Tryz.ntmps71
    go_wp2_with fail
    refine calls_at (fun W0 hW => ?_)
    have hP : Blk W0 w.heap.size 108 #[.int .i64 r1, .int .i64 s1, .int .i64 q1, .slice p1 64 c1, .slice t1 m1 d1, .int .i64 r2, .int .i64 s2, .int .i64 q2, .slice p2 64 c2, .slice t2 m2 d2] := by rw [hW]; exact ((Blk.new _ _ _).alloc _).alloc _
    have hQ : Blk W0 (w.heap.size + 1) 28 #[.int .i64 r2, .int .i64 s2, .int .i64 q2, .slice p2 64 c2, .slice t2 m2 d2] := by rw [hW]; exact (blk_at (by simp) (Blk.new _ _ _)).alloc _
    have hR : Blk W0 (w.heap.size + 2) 28 #[.int .i64 r1, .int .i64 s1, .int .i64 q1, .slice p1 64 c1, .slice t1 m1 d1, .int .i64 r2, .int .i64 s2, .int .i64 q2, .slice p2 64 c2, .slice t2 m2 d2] := by rw [hW]; exact blk_at (by simp) (Blk.new _ _ _)
    have hb0 : Below w.heap.size w W0 := by rw [hW]; go_grown
    clear hW
    refine (hall.out _ W0 hR).mono ?_
    rintro e w2 ⟨rfl, hb2⟩
    replace hP := hP.below hb2
    replace hQ := hQ.below hb2
    replace hb0 := hb0.trans (hb2.mono hb0.size)
    clear hb2 hR hall
    obtain ⟨⟨y0, y1, y2, y3, y4⟩, y5, y6, y7, y8, y9⟩ := blk10v hP
    obtain ⟨z0, z1, z2, z3, z4⟩ := blk5v hQ
    go_wp2_with fail
    go_returns
    exact ⟨rfl, hb0⟩
end Go.Proofs.YtgjffaoggjlamaaGreatDoor

namespace Go.Proofs.YtgjffaoggjlamaaGreatDoor
open Go Go.RowKit
def PostOw (r s q : Int) (S G : Nat → Int) (w : World) (e : Ending) (w' : World) : Prop := ∃ g1 c1 g2 c2, e = .returned (.agg #[.int .i64 r, .int .i64 s, .int .i64 q, .slice (some ⟨g1, 0, none⟩) 64 c1, .slice (some ⟨g2, 0, none⟩) 64 c2]) ∧ w.heap.size ≤ g1 ∧ w.heap.size ≤ g2 ∧ RowB w' g1 64 c1 S ∧ RowB w' g2 64 c2 G ∧ Below w.heap.size w w'
set_option maxRecDepth 20000 in
set_option maxHeartbeats 8000000 in
theorem own_c (r s q : Int) (g1 o1 c1 g2 o2 c2 : Nat) (S G : Nat → Int) (w : World) (hg1 : g1 < w.heap.size) (hc1 : ∀ j, j < 64 → w.cell? ⟨g1, o1 + j, none⟩ = some (.int .u8 (S j))) (hg2 : g2 < w.heap.size) (hc2 : ∀ j, j < 64 → w.cell? ⟨g2, o2 + j, none⟩ = some (.int .u8 (G j))) :
    Calls Tryz.prog 72 #[.agg #[.int .i64 r, .int .i64 s, .int .i64 q, .slice (some ⟨g1, o1, none⟩) 64 c1, .slice (some ⟨g2, o2, none⟩) 64 c2]] w (PostOw r s q S G w) := by
  have hcl1 := Lib.hid (fun w1 (hb : Below w.heap.size w w1) => cloneB_c g1 o1 64 c1 S (by decide) w1 (Nat.lt_of_lt_of_le hg1 hb.size) (fun j hj => (hb.cell (p := ⟨g1, o1 + j, none⟩) hg1).trans (hc1 j hj)))
  have hcl2 := Lib.hid (fun w1 (hb : Below w.heap.size w w1) => cloneB_c g2 o2 64 c2 G (by decide) w1 (Nat.lt_of_lt_of_le hg2 hb.size) (fun j hj => (hb.cell (p := ⟨g2, o2 + j, none⟩) hg2).trans (hc2 j hj)))
  clear hc1 hc2 hg1 hg2
  go_enter Tryz.func72, Tryz.ntmps72
  go_upto_region 1 with fail
  refine at_world (fun w5 hW => ?_)
  obtain ⟨GB, hGB⟩ : ∃ g, g = w.heap.size := ⟨_, rfl⟩
  have kP : Blk w5 GB 28 #[.int .i64 r, .int .i64 s, .int .i64 q, .slice (some ⟨g1, o1, none⟩) 64 c1, .slice (some ⟨g2, o2, none⟩) 64 c2] := by rw [hW, hGB]; exact (Blk.new _ _ _).alloc _
  have kZ : Blk w5 (GB + 1) 28 rtZ := by rw [hW, hGB]; exact blk_at (by simp) (Blk.new _ _ _)
  have hb5 : Below w.heap.size w w5 := by rw [hW]; go_grown
  rw [← hGB]
  clear hW
  have h0 : Below w5.heap.size w5 w5 := Below.refl _ _
  have lK := hb5.size
  obtain ⟨y0, y1, y2, y3, y4⟩ := blk5v kP
  have lP := kP.lt
  replace hb5 := Lib.hid hb5
  replace kP := Lib.hid kP
  replace kZ := Lib.hid kZ
  replace hGB := Lib.hid hGB
  go_region_with (first | (go_at_call 86; (with_reducible refine (hcl1.out _ (hb5.out.trans (h0.drew.mono lK))).mono ?_); rintro e w6 ⟨d1, e1, rfl, hd1, hR1, k6⟩; replace hR1 := Lib.hid hR1; replace k6 := h0.drew.trans (k6.mono h0.size); have y46 : w6.cell? ⟨GB, 4, none⟩ = some (.slice (some ⟨g2, o2, none⟩) 64 c2) := (kP.out.below k6).cell 4; have l6 : GB < w6.heap.size := (kP.out.below k6).lt) | (go_at_call 86; (with_reducible refine (hcl2.out w6 (hb5.out.trans (k6.mono lK))).mono ?_); rintro e w7 ⟨d2, e2, rfl, hd2, hR2, k76⟩; have k7 := k6.trans (k76.mono k6.size); have kP7 := kP.out.below k7; obtain ⟨t0, t1, t2, t3, t4⟩ := blk5v kP7; have f3 := kP7.frozen 3; have f4 := kP7.frozen 4))
  all_goals
    have eGB := hGB.out
    have z5 := h0.size
    have z6 := k6.size
    replace hd1 : w5.heap.size ≤ d1 := hd1
    have n1 : d1 ≠ GB := by omega
    have n2 : d2 ≠ GB := by omega
    have n3 : d1 ≠ GB + 1 := by have := kZ.out.lt; omega
    have n4 : d2 ≠ GB + 1 := by have := kZ.out.lt; omega
    refine at_exit (fun w8 hW => ?_)
    have kP8 : Blk w8 GB 28 #[.int .i64 r, .int .i64 s, .int .i64 q, .slice (some ⟨d1, 0, none⟩) 64 e1, .slice (some ⟨d2, 0, none⟩) 64 e2] := by rw [hW]; exact (kP7.set_ 3 _).set_ 4 _
    have kZ8 : Blk w8 (GB + 1) 28 rtZ := by rw [hW]; exact ((kZ.out.below k7).far (by show GB + 1 ≠ GB; omega) _).far (by show GB + 1 ≠ GB; omega) _
    have q1 : RowB w8 d1 64 e1 S := by rw [hW]; exact ((hR1.out.below k76).far n1 _).far n1 _
    have q2 : RowB w8 d2 64 e2 G := by rw [hW]; exact (hR2.far n2 _).far n2 _
    have hb8 : Below w.heap.size w w8 := by rw [hW]; exact ((hb5.out.trans (k7.mono lK)).setCell (by show w.heap.size ≤ GB; omega) _).setCell (by show w.heap.size ≤ GB; omega) _
    have lGB : w.heap.size ≤ GB := by omega
    have v1 : w.heap.size ≤ d1 := by omega
    have v2 : w.heap.size ≤ d2 := by omega
    clear hW kP hb5 kZ kP7 hR1 hR2 k7 k76 k6 h0 y0 y1 y2 y3 y4 y46 t0 t1 t2 t3 t4 f3 f4 hcl1 hcl2 hd1 hd2 eGB
    obtain ⟨t0, t1, t2, t3, t4⟩ := blk5v kP8
    obtain ⟨z0, z1, z2, z3, z4⟩ := blk5v (show Blk w8 (GB + 1) 28 #[.int .i64 0, .int .i64 0, .int .i64 0, .slice none 0 0, .slice none 0 0] from kZ8)
    have v0 := kZ8.frozen 0
    have v10 := kZ8.frozen 1
    have v11 := kZ8.frozen 2
    have v12 := kZ8.frozen 3
    have v13 := kZ8.frozen 4
    have lZ8 := kZ8.lt
    replace q1 := Lib.hid q1
    replace q2 := Lib.hid q2
    replace hb8 := Lib.hid hb8
    replace kZ8 := Lib.hid kZ8
    go_wp2_with fail
    have kR := setRoot w8 (GB + 1) (.int .i64 r) (.int .i64 s) (.int .i64 q) (.slice (some ⟨d1, 0, none⟩) 64 e1) (.slice (some ⟨d2, 0, none⟩) 64 e2) kZ8.out
    obtain ⟨kF, hgF⟩ := kR
    generalize ((((w8.setCell ⟨GB + 1, 0, none⟩ (.int .i64 r)).setCell ⟨GB + 1, 1, none⟩ (.int .i64 s)).setCell ⟨GB + 1, 2, none⟩ (.int .i64 q)).setCell ⟨GB + 1, 3, none⟩ (.slice (some ⟨d1, 0, none⟩) 64 e1)).setCell ⟨GB + 1, 4, none⟩ (.slice (some ⟨d2, 0, none⟩) 64 e2) = w13 at *
    obtain ⟨u0, u1, u2, u3, u4⟩ := blk5v kF
    have hR1f := q1.out.grown hgF (fun e => n3 (Option.some.inj e))
    have hR2f := q2.out.grown hgF (fun e => n4 (Option.some.inj e))
    have hbf : Below w.heap.size w w13 := hb8.out.grown hgF hb8.out.size (fun k hk => by have : GB + 1 = k := Option.some.inj hk; omega)
    refine bodyPost_ret (v := .agg #[.int .i64 r, .int .i64 s, .int .i64 q, .slice (some ⟨d1, 0, none⟩) 64 e1, .slice (some ⟨d2, 0, none⟩) 64 e2]) (by simp [results, Tryz.results72, go_sem, u0, u1, u2, u3, u4]) rfl ⟨d1, e1, d2, e2, rfl, v1, v2, hR1f, hR2f, hbf⟩
end Go.Proofs.YtgjffaoggjlamaaGreatDoor

namespace Go.Proofs.YtgjffaoggjlamaaGreatDoor
open Go Go.RowKit
set_option maxRecDepth 20000 in
set_option maxHeartbeats 4000000 in
theorem pairOf_c (r1 s1 q1 : Int) (p1 : Option Addr) (n1 c1 : Nat) (t1 : Option Addr) (m1 d1 : Nat) (r2 s2 q2 : Int) (p2 : Option Addr) (n2 c2 : Nat) (t2 : Option Addr) (m2 d2 : Nat) (w : World) : Calls Tryz.prog 73 #[.agg #[.int .i64 r1, .int .i64 s1, .int .i64 q1, .slice p1 n1 c1, .slice t1 m1 d1, .int .i64 r2, .int .i64 s2, .int .i64 q2, .slice p2 n2 c2, .slice t2 m2 d2]] w (PostV (.agg #[.int .i64 r1, .int .i64 s1, .int .i64 q1, .slice p1 n1 c1, .slice t1 m1 d1, .int .i64 r2, .int .i64 s2, .int .i64 q2, .slice p2 n2 c2, .slice t2 m2 d2]) w) := by
  go_enter Tryz.func73, Tryz.ntmps73
  go_wp2
  go_returns
  exact ⟨rfl, by go_grown⟩
set_option maxRecDepth 20000 in
set_option maxHeartbeats 4000000 in
theorem eRight_c (r1 s1 q1 : Int) (p1 : Option Addr) (n1 c1 : Nat) (t1 : Option Addr) (m1 d1 : Nat) (r2 s2 q2 : Int) (p2 : Option Addr) (n2 c2 : Nat) (t2 : Option Addr) (m2 d2 : Nat) (S1 S2 : Nat → Int) (w : World) (hX1 : BX [] w p1 n1 S1) (hX2 : BX [] w p2 n2 S2) : Calls Tryz.prog 21 #[.agg #[.int .i64 r1, .int .i64 s1, .int .i64 q1, .slice p1 n1 c1, .slice t1 m1 d1, .int .i64 r2, .int .i64 s2, .int .i64 q2, .slice p2 n2 c2, .slice t2 m2 d2]] w (PostV (.bool (decide (ordI r1 s1 q1 n1 m1 S1 r2 s2 q2 n2 m2 S2 < 0))) w) := by
  have hp := Lib.hid (fun w1 => pairOf_c r1 s1 q1 p1 n1 c1 t1 m1 d1 r2 s2 q2 p2 n2 c2 t2 m2 d2 w1)
  have ho := fun w1 (hb : Below w.heap.size w w1) => eorder_c r1 s1 q1 p1 n1 c1 t1 m1 d1 r2 s2 q2 p2 n2 c2 t2 m2 d2 S1 S2 w1 (hX1.below hb) (hX2.below hb)
  generalize ordI r1 s1 q1 n1 m1 S1 r2 s2 q2 n2 m2 S2 = O at *
  replace ho := Lib.hid ho
  clear hX1 hX2
  go_enter Tryz.func21, Tryz.ntmps21
  go_wp2_with fail
  refine calls_at (fun W0 hW => ?_)
  have hb0 : Below w.heap.size w W0 := by rw [hW]; go_grown
  clear hW
  refine (hp.out W0).mono ?_
  rintro e w2 ⟨rfl, hb2⟩
  replace hb0 := hb0.trans (hb2.mono hb0.size)
  clear hp hb2
  go_wp2_with fail
  refine (ho.out w2 hb0).mono ?_
  rintro e w3 ⟨rfl, hb2⟩
  replace hb0 := hb0.trans (hb2.mono hb0.size)
  clear ho hb2
  go_wp2_with fail
  go_returns
  exact ⟨rfl, hb0⟩
theorem setTen (w : World) (g : Nat) (a0 a1 a2 a3 a4 a5 a6 a7 a8 a9 : Value) {v0 v1 v2 v3 v4 v5 v6 v7 v8 v9 : Value} {t : TypeId} (h : Blk w g t #[v0, v1, v2, v3, v4, v5, v6, v7, v8, v9]) : Blk ((((((((((w.setCell ⟨g, 0, none⟩ a0).setCell ⟨g, 1, none⟩ a1).setCell ⟨g, 2, none⟩ a2).setCell ⟨g, 3, none⟩ a3).setCell ⟨g, 4, none⟩ a4).setCell ⟨g, 5, none⟩ a5).setCell ⟨g, 6, none⟩ a6).setCell ⟨g, 7, none⟩ a7).setCell ⟨g, 8, none⟩ a8).setCell ⟨g, 9, none⟩ a9) g t #[a0, a1, a2, a3, a4, a5, a6, a7, a8, a9] ∧ w.grownBy ((((((((((w.setCell ⟨g, 0, none⟩ a0).setCell ⟨g, 1, none⟩ a1).setCell ⟨g, 2, none⟩ a2).setCell ⟨g, 3, none⟩ a3).setCell ⟨g, 4, none⟩ a4).setCell ⟨g, 5, none⟩ a5).setCell ⟨g, 6, none⟩ a6).setCell ⟨g, 7, none⟩ a7).setCell ⟨g, 8, none⟩ a8).setCell ⟨g, 9, none⟩ a9) (some g) := by
  have h0 : Blk (w.setCell ⟨g, 0, none⟩ a0) g t #[a0, v1, v2, v3, v4, v5, v6, v7, v8, v9] := h.set_ 0 a0
  have h1 : Blk ((w.setCell ⟨g, 0, none⟩ a0).setCell ⟨g, 1, none⟩ a1) g t #[a0, a1, v2, v3, v4, v5, v6, v7, v8, v9] := h0.set_ 1 a1
  have h2 : Blk (((w.setCell ⟨g, 0, none⟩ a0).setCell ⟨g, 1, none⟩ a1).setCell ⟨g, 2, none⟩ a2) g t #[a0, a1, a2, v3, v4, v5, v6, v7, v8, v9] := h1.set_ 2 a2
  have h3 : Blk ((((w.setCell ⟨g, 0, none⟩ a0).setCell ⟨g, 1, none⟩ a1).setCell ⟨g, 2, none⟩ a2).setCell ⟨g, 3, none⟩ a3) g t #[a0, a1, a2, a3, v4, v5, v6, v7, v8, v9] := h2.set_ 3 a3
  have h4 : Blk (((((w.setCell ⟨g, 0, none⟩ a0).setCell ⟨g, 1, none⟩ a1).setCell ⟨g, 2, none⟩ a2).setCell ⟨g, 3, none⟩ a3).setCell ⟨g, 4, none⟩ a4) g t #[a0, a1, a2, a3, a4, v5, v6, v7, v8, v9] := h3.set_ 4 a4
  have h5 : Blk ((((((w.setCell ⟨g, 0, none⟩ a0).setCell ⟨g, 1, none⟩ a1).setCell ⟨g, 2, none⟩ a2).setCell ⟨g, 3, none⟩ a3).setCell ⟨g, 4, none⟩ a4).setCell ⟨g, 5, none⟩ a5) g t #[a0, a1, a2, a3, a4, a5, v6, v7, v8, v9] := h4.set_ 5 a5
  have h6 : Blk (((((((w.setCell ⟨g, 0, none⟩ a0).setCell ⟨g, 1, none⟩ a1).setCell ⟨g, 2, none⟩ a2).setCell ⟨g, 3, none⟩ a3).setCell ⟨g, 4, none⟩ a4).setCell ⟨g, 5, none⟩ a5).setCell ⟨g, 6, none⟩ a6) g t #[a0, a1, a2, a3, a4, a5, a6, v7, v8, v9] := h5.set_ 6 a6
  have h7 : Blk ((((((((w.setCell ⟨g, 0, none⟩ a0).setCell ⟨g, 1, none⟩ a1).setCell ⟨g, 2, none⟩ a2).setCell ⟨g, 3, none⟩ a3).setCell ⟨g, 4, none⟩ a4).setCell ⟨g, 5, none⟩ a5).setCell ⟨g, 6, none⟩ a6).setCell ⟨g, 7, none⟩ a7) g t #[a0, a1, a2, a3, a4, a5, a6, a7, v8, v9] := h6.set_ 7 a7
  have h8 : Blk (((((((((w.setCell ⟨g, 0, none⟩ a0).setCell ⟨g, 1, none⟩ a1).setCell ⟨g, 2, none⟩ a2).setCell ⟨g, 3, none⟩ a3).setCell ⟨g, 4, none⟩ a4).setCell ⟨g, 5, none⟩ a5).setCell ⟨g, 6, none⟩ a6).setCell ⟨g, 7, none⟩ a7).setCell ⟨g, 8, none⟩ a8) g t #[a0, a1, a2, a3, a4, a5, a6, a7, a8, v9] := h7.set_ 8 a8
  have h9 : Blk ((((((((((w.setCell ⟨g, 0, none⟩ a0).setCell ⟨g, 1, none⟩ a1).setCell ⟨g, 2, none⟩ a2).setCell ⟨g, 3, none⟩ a3).setCell ⟨g, 4, none⟩ a4).setCell ⟨g, 5, none⟩ a5).setCell ⟨g, 6, none⟩ a6).setCell ⟨g, 7, none⟩ a7).setCell ⟨g, 8, none⟩ a8).setCell ⟨g, 9, none⟩ a9) g t #[a0, a1, a2, a3, a4, a5, a6, a7, a8, a9] := h8.set_ 9 a9
  exact ⟨h9, wgrown_tr (wgrown_tr (wgrown_tr (wgrown_tr (wgrown_tr (wgrown_tr (wgrown_tr (wgrown_tr (wgrown_tr (wgrown_set _ _ _ _) (wgrown_set _ _ _ _)) (wgrown_set _ _ _ _)) (wgrown_set _ _ _ _)) (wgrown_set _ _ _ _)) (wgrown_set _ _ _ _)) (wgrown_set _ _ _ _)) (wgrown_set _ _ _ _)) (wgrown_set _ _ _ _)) (wgrown_set _ _ _ _)⟩
def eZ : Array Value := #[.int .i64 0, .int .i64 0, .int .i64 0, .slice none 0 0, .slice none 0 0, .int .i64 0, .int .i64 0, .int .i64 0, .slice none 0 0, .slice none 0 0]
set_option maxRecDepth 20000 in
set_option maxHeartbeats 4000000 in
theorem Of_zero (r1 s1 q1 : Int) (p1 : Option Addr) (n1 c1 : Nat) (t1 : Option Addr) (m1 d1 : Nat) (r2 s2 q2 : Int) (p2 : Option Addr) (n2 c2 : Nat) (t2 : Option Addr) (m2 d2 : Nat) (S1 S2 : Nat → Int) (hO : ordI r1 s1 q1 n1 m1 S1 r2 s2 q2 n2 m2 S2 = 0) (w : World) (hX1 : BX [] w p1 n1 S1) (hX2 : BX [] w p2 n2 S2) : Calls Tryz.prog 20 #[.agg #[.int .i64 r1, .int .i64 s1, .int .i64 q1, .slice p1 n1 c1, .slice t1 m1 d1], .agg #[.int .i64 r2, .int .i64 s2, .int .i64 q2, .slice p2 n2 c2, .slice t2 m2 d2]] w (PostV (.tuple #[.agg eZ, .int .i64 4]) w) := by
  have ho := fun w1 (hb : Below w.heap.size w w1) => eorder_c r1 s1 q1 p1 n1 c1 t1 m1 d1 r2 s2 q2 p2 n2 c2 t2 m2 d2 S1 S2 w1 (hX1.below hb) (hX2.below hb)
  rw [hO] at ho
  replace ho := Lib.hid ho
  clear hX1 hX2 hO
  go_enter Tryz.func20, Tryz.ntmps20
  go_wp2_with fail
  refine calls_at (fun W0 hW => ?_)
  have hb0 : Below w.heap.size w W0 := by rw [hW]; go_grown
  obtain ⟨gE, hgE⟩ : ∃ g, g = w.heap.size + 2 := ⟨_, rfl⟩
  have kE : Blk W0 gE 36 #[.int .i64 0, .int .i64 0, .int .i64 0, .slice none 0 0, .slice none 0 0, .int .i64 0, .int .i64 0, .int .i64 0, .slice none 0 0, .slice none 0 0] := by rw [hW, hgE]; exact blk_at (by simp) (Blk.new _ _ _)
  have lg : w.heap.size ≤ gE := by omega
  rw [← hgE]
  clear hW hgE
  refine (ho.out W0 hb0).mono ?_
  rintro e w2 ⟨rfl, hb2⟩
  replace hb0 := hb0.trans (hb2.mono hb0.size)
  replace kE := kE.below hb2
  have f0 := kE.frozen 0
  have f1 := kE.frozen 1
  have f2 := kE.frozen 2
  have f3 := kE.frozen 3
  have f4 := kE.frozen 4
  have f5 := kE.frozen 5
  have f6 := kE.frozen 6
  have f7 := kE.frozen 7
  have f8 := kE.frozen 8
  have f9 := kE.frozen 9
  obtain ⟨⟨y0, y1, y2, y3, y4⟩, y5, y6, y7, y8, y9⟩ := blk10v kE
  have lE := kE.lt
  clear ho hb2
  go_wp2_with fail
  obtain ⟨kF, hgF⟩ := setTen w2 gE (.int .i64 0) (.int .i64 0) (.int .i64 0) (.slice none 0 0) (.slice none 0 0) (.int .i64 0) (.int .i64 0) (.int .i64 0) (.slice none 0 0) (.slice none 0 0) kE
  generalize ((((((((((w2.setCell ⟨gE, 0, none⟩ (.int .i64 0)).setCell ⟨gE, 1, none⟩ (.int .i64 0)).setCell ⟨gE, 2, none⟩ (.int .i64 0)).setCell ⟨gE, 3, none⟩ (.slice none 0 0)).setCell ⟨gE, 4, none⟩ (.slice none 0 0)).setCell ⟨gE, 5, none⟩ (.int .i64 0)).setCell ⟨gE, 6, none⟩ (.int .i64 0)).setCell ⟨gE, 7, none⟩ (.int .i64 0)).setCell ⟨gE, 8, none⟩ (.slice none 0 0)).setCell ⟨gE, 9, none⟩ (.slice none 0 0)) = w13 at *
  obtain ⟨⟨u0, u1, u2, u3, u4⟩, u5, u6, u7, u8, u9⟩ := blk10v kF
  have hbf : Below w.heap.size w w13 := hb0.grown hgF hb0.size (fun k hk => by have : gE = k := Option.some.inj hk; omega)
  refine bodyPost_ret (v := .tuple #[.agg eZ, .int .i64 4]) (by simp [results, Tryz.results20, go_sem, u0, u1, u2, u3, u4, u5, u6, u7, u8, u9, eZ]) rfl ⟨rfl, hbf⟩
end Go.Proofs.YtgjffaoggjlamaaGreatDoor
