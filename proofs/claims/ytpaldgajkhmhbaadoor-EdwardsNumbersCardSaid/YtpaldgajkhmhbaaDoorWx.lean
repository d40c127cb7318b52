/- Plain: the order times the base point is Zero: reckoned by the kernel in numbers over one denominator. The order times the base point, as edwards.Mul reckons it. The law EdwardsGets walked, beside the texts of EdwardsMul. The walk of the law EdwardsNumbers. The laid variables of the Edwards laws; arguments of arrays; a law that changes nothing. EdwardsNumbers answers true; its two package variables are tied to the program's text. -/
import Derived.Test.YtpaldgajkhmhbaaDoorWa
import Derived.Test.YtpaldgajkhmhbaaDoorZd
import Derived.Test.YtpaldgajkhmhbaaDoorWd
import Derived.Below
import Derived.ChangeSame
import Derived.ProofKit
import Derived.Laws.IdiomArrays
import Derived.Test.YtpaldgajkhmhbaaDoorRows
import Derived.Test.YtpaldgajkhmhbaaDoorCards
import Derived.Test.YtpaldgajkhmhbaaDoorTie
import Derived.LaidMore
import Derived.ChangeSlices
import Derived.OpenShut
import Derived.Stop.Joined
import Derived.SevenTiedAt
namespace Fe
open Go.Proofs.YtpaldgajkhmhbaaDoor
/-- a number is reckoned before it is handed on -/
def fz1 {α : Type} (n : Nat) (k : Nat → α) : α := Nat.rec (motive := fun _ => α) (k 0) (fun m _ => k (m + 1)) n
theorem fz1_eq {α : Type} (n : Nat) (k : Nat → α) : fz1 n k = k n := by cases n <;> rfl
/-- the sum of two, handed on -/
def ad3 {α : Type} (a b c a2 b2 c2 : Nat) (k : Nat → Nat → Nat → α) : α :=
  fz1 (c * c2 % P) fun A => fz1 (A * A % P) fun B => fz1 (a * a2 % P) fun C => fz1 (b * b2 % P) fun E => fz1 (dN * (C * E % P) % P) fun F => fz1 ((B + (P - F)) % P) fun L => fz1 ((B + F) % P) fun M =>
  fz1 ((a * b2 % P + a2 * b % P) % P) fun X => fz1 (A * (L * X % P) % P) fun x => fz1 (A * (M * ((C + E) % P) % P) % P) fun y => fz1 (L * M % P) fun z => k x y z
theorem ad3_eq {α : Type} (a b c a2 b2 c2 : Nat) (k : Nat → Nat → Nat → α) : ad3 a b c a2 b2 c2 k = k (rAx a b c a2 b2 c2) (rAy a b c a2 b2 c2) (rAz a b c a2 b2 c2) := by
  unfold ad3
  simp only [fz1_eq]
  rfl
/-- n more bits of e: is it Zero then? -/
def goB (e n : Nat) : Nat → Nat → Nat → Bool := Nat.rec (motive := fun _ => Nat → Nat → Nat → Bool) (fun a b c => Nat.beq a 0 && Nat.beq b c)
  (fun k ih a b c => ad3 a b c a b c fun x y z => cond (Nat.beq (e / 2 ^ k % 2) 1) (ad3 x y z bX bY 1 ih) (ih x y z)) n
/-- the same of points -/
def rest3 (A : Nat → Bool) : Nat → Fin P × Fin P → Fin P × Fin P
  | 0, s => s
  | k + 1, s => rest3 A k (stepF (zf bX) (zf bY) s (A k))
theorem ra_b : RA bX bY 1 (zf bX) (zf bY) := by
  have h := pa_got (n := bY) (odd := false) (show bY < P by unfold bY P; decide) gB_bb
  rw [gX_bb] at h
  exact h.ra
theorem goB_sound (e : Nat) (A : Nat → Bool) : ∀ n, (∀ k, k < n → A k = Nat.beq (e / 2 ^ k % 2) 1) → ∀ a b c s, RA a b c s.1 s.2 → goB e n a b c = true → rest3 A n s = (0, 1)
  | 0, _, a, b, c, s, h, hg => by
    have hg' : (Nat.beq a 0 && Nat.beq b c) = true := hg
    rw [Bool.and_eq_true] at hg'
    have h1 := Nat.eq_of_beq_eq_true hg'.1
    have h2 := Nat.eq_of_beq_eq_true hg'.2
    have hx := h.hx
    have hy := h.hy
    rw [h1, zf_0] at hx
    rw [h2] at hy
    have e1 : s.1 = 0 := (f_mul hx.symm).resolve_right h.nz
    have e2 : s.2 = 1 := f_can h.nz (by rw [← hy]; grind)
    exact Prod.ext e1 e2
  | n + 1, hA, a, b, c, s, h, hg => by
    have hg' : (ad3 a b c a b c fun x y z => cond (Nat.beq (e / 2 ^ n % 2) 1) (ad3 x y z bX bY 1 (goB e n)) (goB e n x y z)) = true := hg
    rw [ad3_eq, ← hA n (by omega)] at hg'
    have hd := ra_add h h
    show rest3 A n (stepF (zf bX) (zf bY) s (A n)) = (0, 1)
    cases hb : A n
    · rw [hb] at hg'
      exact goB_sound e A n (fun k hk => hA k (by omega)) _ _ _ _ hd hg'
    rw [hb] at hg'
    change ad3 _ _ _ bX bY 1 (goB e n) = true at hg'
    rw [ad3_eq] at hg'
    exact goB_sound e A n (fun k hk => hA k (by omega)) _ _ _ _ (ra_add hd ra_b) hg'
/-- the order of the base point -/
def ordN : Nat := 7237005577332262213973186563042994240857116359379907606001950938285454250989
theorem ord_go : goB ordN 256 0 1 1 = true := by decide +kernel
end Fe

namespace Fe
open Go.Proofs.YtpaldgajkhmhbaaDoor
theorem rest_one (A : Nat → Bool) (m : Nat) : ∀ k, k ≤ m → rest3 A k (oneS (zf bX) (zf bY) A m (m - k)) = oneS (zf bX) (zf bY) A m m
  | 0, _ => rfl
  | k + 1, h => by
    have ih := rest_one A m k (by omega)
    show rest3 A k (stepF (zf bX) (zf bY) (oneS (zf bX) (zf bY) A m (m - (k + 1))) (A k)) = _
    have e : m - k = (m - (k + 1)) + 1 := by omega
    rw [e] at ih
    have e2 : oneS (zf bX) (zf bY) A m (m - (k + 1) + 1) = stepF (zf bX) (zf bY) (oneS (zf bX) (zf bY) A m (m - (k + 1))) (A (m - 1 - (m - (k + 1)))) := rfl
    rw [e2, show m - 1 - (m - (k + 1)) = k by omega] at ih
    exact ih
theorem ord_zero {b : Nat → Int} (hb : ∀ k, k < 256 → bitB b k = Nat.beq (ordN / 2 ^ k % 2) 1) : mulY 32 b (zf bX) (zf bY) = (0, 1) := by
  rw [mulY_one, ← rest_one (bitB b) 256 256 (Nat.le_refl _), Nat.sub_self]
  exact goB_sound ordN (bitB b) 256 hb 0 1 1 (0, 1) ra_zero ord_go
/-- the order's bytes, the first one given -/
def ordB (x : Int) (j : Nat) : Int := [x, 211, 245, 92, 26, 99, 18, 88, 214, 156, 247, 162, 222, 249, 222, 20, 0, 0, 0, 0, 0, 0, 0, 0, 0, 0, 0, 0, 0, 0, 0, 16].getD j 0
theorem ord_bits (k : Nat) (h : k < 256) : bitB (ordB 237) k = Nat.beq (ordN / 2 ^ k % 2) 1 := by
  have : ∀ k : Fin 256, bitB (ordB 237) k.val = Nat.beq (ordN / 2 ^ k.val % 2) 1 := by decide +kernel
  exact this ⟨k, h⟩
end Fe

namespace Go.Proofs.YtpaldgajkhmhbaaDoor
open Go.RowKit
set_option maxRecDepth 20000 in
set_option maxHeartbeats 8000000 in
theorem egets_F (p : Option Addr) (n c : Nat) (b : Nat → Int) (hn : n ≤ 100) (w : World) (hCv : CvP w) (hL : ∀ w', Below w.heap.size w w' → Calls Tryd.prog 12 #[.slice p n c] w' (PostLent n b w'))
    (hG : ∀ w' g', RowB w' g' (n + 12) (n + 12) (lentF n b) → CvP w' → Calls Tryd.prog 13 #[.slice (some ⟨g', 0, none⟩) n (n + 12)] w' fun e w'' => e = .returned (.tuple #[.agg (pcs ⟨0, 0, 0, 0, 0⟩ ⟨0, 0, 0, 0, 0⟩ ⟨0, 0, 0, 0, 0⟩ ⟨0, 0, 0, 0, 0⟩), .bool false]) ∧ Below w'.heap.size w' w'')
    (hR : ∀ w', Below w.heap.size w w' → Calls Tryd.prog 14 #[.slice p n c] w' (PostRd false (fun _ => 0) (fun _ => 0) (fun _ => 0) w'))
    (hK : ∀ w' g', RowB w' g' (n + 12) (n + 12) (lentF n b) → Below w.heap.size w w' → Calls Tryd.prog 15 #[.slice (some ⟨g', 0, none⟩) n (n + 12), .slice p n c] w' fun e w'' => e = .returned (.bool true) ∧ Below w'.heap.size w' w'') :
    Calls Tryd.prog 3 #[.slice p n c] w fun e w' => e = .returned (.bool true) ∧ Below w.heap.size w w' := by
  have hi : (n : Int) ≤ 100 := by omega
  replace hL := Lib.hid hL
  replace hG := Lib.hid hG
  replace hR := Lib.hid hR
  replace hK := Lib.hid hK
  replace hCv := Lib.hid hCv
  clear hn
  go_enter Tryd.func3, Tryd.ntmps3
  go_wp2_with fail
  refine (awake4_c w hCv.out).mono ?_
  rintro e w1 ⟨rfl, hb0⟩
  go_wp2_with fail
  refine (hL.out w1 hb0).mono ?_
  rintro e w2 ⟨g2, rfl, hg2, hL2, hb⟩
  replace hb0 := hb0.trans (hb.mono hb0.size)
  replace hL2 := Lib.hid hL2
  clear hb hg2 hL
  go_wp2_with fail
  refine (hG.out w2 g2 hL2.out (hCv.out.below hb0 hCv.out.lt)).mono ?_
  rintro e w3 ⟨rfl, hb⟩
  replace hb0 := hb0.trans (hb.mono hb0.size)
  replace hL2 := Lib.hid (hL2.out.below hb)
  clear hb hG
  have LO := hb0.size
  have L2 := hL2.out.lt
  go_wp2_with (refine stPt rfl rfl rfl rfl (Blk.new _ _ _) rfl rfl (by kernel_rfl) ?_; intro w4 k4 hgr hsz; replace hL2 := Lib.hid ((hL2.out.below ((Below.refl _ _).alloc (Nat.le_refl _) _)).grown hgr (fun h => by injection h with h; omega)); replace hb0 := (hb0.alloc hb0.size _).grown hgr (Nat.le_trans hb0.size (by simp)) (fun k hk => by injection hk with hk; omega); clear hgr hsz)
  obtain ⟨G4, hG4⟩ : ∃ G, G = w3.heap.size := ⟨_, rfl⟩
  rw [← hG4] at k4 LO ⊢
  clear hG4 L2 LO
  refine (hR.out w4 hb0).mono ?_
  rintro e w5 ⟨⟨cs, rfl, hs, ho, _⟩, hb⟩
  replace k4 := k4.below hb
  replace hb0 := hb0.trans (hb.mono hb0.size)
  replace hL2 := Lib.hid (hL2.out.below hb)
  clear hb hR
  have LO := hb0.size
  have L2 := hL2.out.lt
  have L4 := k4.lt
  go_wp2_with (refine stP rfl rfl rfl rfl (Blk.new _ _ _) rfl hs ho ?_; intro w6 k6 hgr hsz; replace k4 := (k4.alloc _).grown hgr (fun h => by injection h with h; omega); replace hL2 := Lib.hid ((hL2.out.below ((Below.refl _ _).alloc (Nat.le_refl _) _)).grown hgr (fun h => by injection h with h; omega)); replace hb0 := (hb0.alloc hb0.size _).grown hgr (Nat.le_trans hb0.size (by simp)) (fun k hk => by injection hk with hk; omega); clear hgr hsz)
  clear L2 L4 LO k6
  refine (hK.out w6 g2 hL2.out hb0).mono ?_
  rintro e w7 ⟨rfl, hb⟩
  replace k4 := k4.below hb
  have hP := Lib.hid (hb0.trans (hb.mono hb0.size))
  clear hb hb0 hK hL2
  have heq : ∀ w, (binOp .eql 29 (.agg (pcs ⟨0, 0, 0, 0, 0⟩ ⟨0, 0, 0, 0, 0⟩ ⟨0, 0, 0, 0, 0⟩ ⟨0, 0, 0, 0, 0⟩)) (.agg #[.int .u64 0, .int .u64 0, .int .u64 0, .int .u64 0, .int .u64 0, .int .u64 0, .int .u64 0, .int .u64 0, .int .u64 0, .int .u64 0, .int .u64 0, .int .u64 0, .int .u64 0, .int .u64 0, .int .u64 0, .int .u64 0, .int .u64 0, .int .u64 0, .int .u64 0, .int .u64 0])).run Tryd.prog w = .ok (.bool true) w := fun w => by kernel_rfl
  go_wp2_with (refine ldPt rfl rfl rfl k4 rfl ?_)
  go_returns
  exact ⟨rfl, hP.out⟩
def gt13L (x : Fin Fe.P) (y : Fin Fe.P) (g : Nat) (o : Nat) (c : Nat) (g5 : Nat) : List (Value → World → Prop) := [
  PqP x y,
  Eq1 (.bool true),
  Eq1 (.bool true),
  Eq1 (.slice (some ⟨g5, 0, none⟩) 32 32),
  Eq1 (.slice (some ⟨g, o, none⟩) 32 c),
  Eq1 (.bool true),
  Eq1 (.bool true),
  Eq1 (.bool true),
  RqP x y,
  RbQ x y,
  Eq1 (.slice (some ⟨g, o, none⟩) 32 c),
  Eq1 (.bool true),
  Eq1 (.bool true),
  Eq1 (.bool true),
  PqP x y,
  RqP x y,
  RqP x y,
  Eq1 (.bool true),
  Eq1 (.bool true),
  Eq1 (.bool true)]
theorem gt13S (x : Fin Fe.P) (y : Fin Fe.P) (g : Nat) (o : Nat) (c : Nat) (g5 : Nat) : ∀ j x' q q', (gt13L x y g o c g5).getD j (fun _ _ => True) x' q → Below q.heap.size q q' → (gt13L x y g o c g5).getD j (fun _ _ => True) x' q' := by
  refine sta_all _ ?_
  simp only [gt13L, List.mem_cons, forall_eq_or_imp, List.not_mem_nil, false_implies, implies_true, and_true]
  exact ⟨sta_pq _ _, sta_eq _, sta_eq _, sta_eq _, sta_eq _, sta_eq _, sta_eq _, sta_eq _, sta_rq _ _, sta_rbq _ _, sta_eq _, sta_eq _, sta_eq _, sta_eq _, sta_pq _ _, sta_rq _ _, sta_rq _ _, sta_eq _, sta_eq _, sta_eq _⟩
set_option maxRecDepth 20000 in
set_option maxHeartbeats 8000000 in
theorem egets_T (g o c : Nat) (b : Nat → Int) (hr : ∀ j, 0 ≤ b j ∧ b j < 256) (w : World) (hCv : CvP w) (hg : g < w.heap.size) (hc : ∀ j, j < 32 → w.cell? ⟨g, o + j, none⟩ = some (.int .u8 (b j))) (hok : Fe.okB b = true) :
    Calls Tryd.prog 3 #[.slice (some ⟨g, o, none⟩) 32 c] w fun e w' => e = .returned (.bool true) ∧ Below w.heap.size w w' := by
  have hS : ∀ w', Below w.heap.size w w' → SAt w' (some ⟨g, o, none⟩) 32 c b := fun w' hb => SAt.below (.inr (.inr ⟨g, o, rfl, hg, hc⟩)) hb
  have hL := fun w' hb => lentB_c (some ⟨g, o, none⟩) 32 c b (by decide) w' (hS w' hb)
  have hKp := fun w' g' hR hb => keptB_c g' (some ⟨g, o, none⟩) 32 c b (by decide) w' (hS w' hb) hR
  have hRd : ∀ w', Below w.heap.size w w' → Calls Tryd.prog 14 #[.slice (some ⟨g, o, none⟩) 32 c] w' (PostRd (Fe.okB b) (Dg.dg (Fe.gX (Fe.nB b) (Fe.odB b))) (Dg.dg (Fe.nB b)) (Dg.dg 1) w') := fun w' hb => rread_c g o c b hr w' (Nat.lt_of_lt_of_le hg hb.size) (fun j hj => (hb.cell (p := ⟨g, o + j, none⟩) hg).trans (hc j hj))
  rw [hok] at hRd
  have hra : Fe.RA (Fe.gX (Fe.nB b) (Fe.odB b)) (Fe.nB b) 1 (Fe.zf (Fe.gX (Fe.nB b) (Fe.odB b))) (Fe.zf (Fe.nB b)) := by
    have hgb := hok
    unfold Fe.okB at hgb
    rw [Bool.and_eq_true] at hgb
    exact (Fe.pa_got (Fe.nB_lt b) hgb.2).ra
  have hGt : ∀ w' g', RowB w' g' (32 + 12) (32 + 12) (lentF 32 b) → CvP w' → Calls Tryd.prog 13 #[.slice (some ⟨g', 0, none⟩) 32 (32 + 12)] w' fun e w'' => ∃ X Y Z T, e = .returned (.tuple #[.agg (pcs X Y Z T), .bool true]) ∧ PtE X Y Z T (Fe.zf (Fe.gX (Fe.nB b) (Fe.odB b))) (Fe.zf (Fe.nB b)) ∧ Below w'.heap.size w' w'' := fun w' g' hR hC => getq_c g' 0 (32 + 12) b hr w' hR.lt (fun j hj => by rw [Nat.zero_add, hR.cell j (by omega)]; unfold lentF; rw [if_pos hj]) hC hok
  have hSame : ∀ g1 c1 w', Below w.heap.size w w' → RowB w' g1 32 c1 (fun j => ptB (Fe.zf (Fe.nB b)).val (Fe.zf (Fe.gX (Fe.nB b) (Fe.odB b))).val j) → Calls Tryd.prog 18 #[.slice (some ⟨g1, 0, none⟩) 32 c1, .slice (some ⟨g, o, none⟩) 32 c] w' (PostV (.bool true) w') := fun g1 c1 w' hb hR => by
    have h := sameBytes_c g1 0 c1 32 g o c 32 _ b (by decide) (by decide) w' (fun j hj => by rw [Nat.zero_add]; exact hR.cell j hj) (fun j hj => (hb.cell (p := ⟨g, o + j, none⟩) hg).trans (hc j hj)) hR.lt (Nat.lt_of_lt_of_le hg hb.size)
    have e : sameB 32 32 (fun j => ptB (Fe.zf (Fe.nB b)).val (Fe.zf (Fe.gX (Fe.nB b) (Fe.odB b))).val j) b = true := by unfold sameB; exact decide_eq_true ⟨rfl, fun j hj => Fe.enc_dec hr hok j hj⟩
    rw [e] at h
    exact h
  obtain ⟨x, hx⟩ : ∃ x, Fe.zf (Fe.gX (Fe.nB b) (Fe.odB b)) = x := ⟨_, rfl⟩
  obtain ⟨y, hy⟩ : ∃ y, Fe.zf (Fe.nB b) = y := ⟨_, rfl⟩
  obtain ⟨A, hA⟩ : ∃ A, Fe.gX (Fe.nB b) (Fe.odB b) = A := ⟨_, rfl⟩
  obtain ⟨B, hB⟩ : ∃ B, Fe.nB b = B := ⟨_, rfl⟩
  obtain ⟨C, hC⟩ : ∃ C, 1 = C := ⟨_, rfl⟩
  rw [hx, hy] at hra hGt hSame
  rw [hA, hB, hC] at hra
  rw [hA, hB, hC] at hRd
  replace hL := Lib.hid hL
  replace hKp := Lib.hid hKp
  replace hRd := Lib.hid hRd
  have hR0 := Lib.hid hra
  replace hGt := Lib.hid hGt
  replace hSame := Lib.hid hSame
  replace hCv := Lib.hid hCv
  clear hS hr hg hc hok hx hy hA hB hC hra
  go_enter Tryd.func3, Tryd.ntmps3
  go_wp2_with fail
  refine (awake4_c w hCv.out).mono ?_
  rintro e w1 ⟨rfl, hb0⟩
  go_wp2_with fail
  refine (hL.out w1 hb0).mono ?_
  rintro e w2 ⟨g2, rfl, hg2, hL2, hb⟩
  replace hb0 := hb0.trans (hb.mono hb0.size)
  replace hL2 := Lib.hid hL2
  clear hb hg2 hL
  go_wp2_with fail
  refine (hGt.out w2 g2 hL2.out (hCv.out.below hb0 hCv.out.lt)).mono ?_
  rintro e w3 ⟨X, Y, Z, T, rfl, hE, hb⟩
  replace hb0 := hb0.trans (hb.mono hb0.size)
  replace hL2 := Lib.hid (hL2.out.below hb)
  replace hE := Lib.hid hE
  clear hb hGt
  have LO := hb0.size
  have L2 := hL2.out.lt
  go_wp2_with (refine stPt rfl rfl rfl rfl (Blk.new _ _ _) rfl rfl (by kernel_rfl) ?_; intro w4 k4 hgr hsz; replace hL2 := Lib.hid ((hL2.out.below ((Below.refl _ _).alloc (Nat.le_refl _) _)).grown hgr (fun h => by injection h with h; omega)); replace hb0 := (hb0.alloc hb0.size _).grown hgr (Nat.le_trans hb0.size (by simp)) (fun k hk => by injection hk with hk; omega); clear hgr hsz)
  obtain ⟨G4, hG4⟩ : ∃ G, G = w3.heap.size := ⟨_, rfl⟩
  rw [← hG4] at k4 LO ⊢
  clear hG4 L2 LO
  refine (hRd.out w4 hb0).mono ?_
  rintro e w5 ⟨⟨cs, rfl, hs, ho, hcs⟩, hb⟩
  obtain rfl := hcs rfl
  clear hcs hs ho
  replace k4 := k4.below hb
  replace hb0 := hb0.trans (hb.mono hb0.size)
  replace hL2 := Lib.hid (hL2.out.below hb)
  clear hb hRd
  have LO := hb0.size
  have L2 := hL2.out.lt
  have L4 := k4.lt
  go_wp2_with (refine stT rfl rfl rfl rfl (Blk.new _ _ _) rfl ?_; intro w6 k6 hgr hsz; replace k4 := (k4.alloc _).grown hgr (fun h => by injection h with h; omega); replace hL2 := Lib.hid ((hL2.out.below ((Below.refl _ _).alloc (Nat.le_refl _) _)).grown hgr (fun h => by injection h with h; omega)); replace hb0 := (hb0.alloc hb0.size _).grown hgr (Nat.le_trans hb0.size (by simp)) (fun k hk => by injection hk with hk; omega); clear hgr hsz)
  obtain ⟨G6, hG6⟩ : ∃ G, G = w5.heap.size := ⟨_, rfl⟩
  rw [← hG6] at k6 ⊢
  clear hG6 L2 L4 LO
  refine (hKp.out w6 g2 hL2.out hb0).mono ?_
  rintro e w7 ⟨rfl, hb⟩
  replace k4 := k4.below hb
  replace k6 := k6.below hb
  replace hb0 := hb0.trans (hb.mono hb0.size)
  clear hb hKp hL2
  go_wp2_with (refine ldPt rfl rfl rfl k4 rfl ?_)
  refine (pput_c w7 hE.out).mono ?_
  rintro e w9 ⟨g5, hg5, rfl, h5, hb⟩
  replace k4 := k4.below hb
  replace k6 := k6.below hb
  replace hb0 := hb0.trans (hb.mono hb0.size)
  replace h5 := Lib.hid h5
  clear hb hg5
  have hC9 := hCv.out.below hb0 hCv.out.lt
  go_wp2
  refine wp_region_grow2 20 (fun k => Nat.beq k 2 || (Nat.ble 42 k && Nat.ble k 60)) _ [] (fun j x' q => (gt13L x y g o c g5).getD j (fun _ _ => True) x' q) (fun _ => false) (fun f => #[.slice (some ⟨g, o, none⟩) 32 c, _, f 2, _, .pointer (some ⟨G4, 0, none⟩), _, .pointer (some ⟨G6, 0, none⟩), _, .slice (some ⟨g5, 0, none⟩) 32 32, _, _, _, _, _, _, _, _, _, _, _, _, _, _, _, _, _, _, _, _, _, _, _, _, _, _, _, _, _, _, _, _, _, f 42, f 43, f 44, f 45, f 46, f 47, f 48, f 49, f 50, f 51, f 52, f 53, f 54, f 55, f 56, f 57, f 58, f 59, f 60]) (fun f => rfl) (by kernel_rfl) (by kernel_rfl) (by kernel_rfl) (by kernel_rfl) (by kernel_rfl) (gt13S _ _ _ _ _ _) (fun _ _ _ h => by cases h) ?_ ?_
  · refine steps2_cons ?_ ?_
    · as_aux_lemma =>
      intro f w1 hb hd Q hK
      clear hd
      have hK := Lib.hid hK
      refine ldPtG (by kernel_rfl) rfl rfl (k4.below hb) ?_
      refine wpList_nil ?_
      exact hK.out _ _ ⟨_, _, _, _, rfl, hE.out⟩ (.refl _ _) nof
    refine steps2_cons ?_ ?_
    · as_aux_lemma =>
      intro f w1 hb hd Q hK
      obtain ⟨X42, Y42, Z42, T42, e42, h42⟩ := (hd.1 rfl : PqP x y (f 42) w1)
      clear hd
      simp only [e42] at hK
      have hK := Lib.hid hK
      go_wp2_with fail
      refine (pson_c _ h42 (hC9.below hb hC9.lt)).mono ?_
      rintro e w2 ⟨rfl, hb2⟩
      go_wp2
      exact hK.out _ _ rfl hb2 nof
    refine steps2_cons ?_ ?_
    · as_aux_lemma =>
      intro f w1 hb hd Q hK
      have e43 : f 43 = .bool true := hd.1 rfl
      clear hd
      simp only [e43] at hK
      have hK := Lib.hid hK
      go_wp2
      exact hK.out _ _ rfl (.refl _ _) nof
    refine steps2_cons ?_ ?_
    · as_aux_lemma =>
      intro f w1 hb hd Q hK
      have e44 : f 44 = .bool true := hd.1 rfl
      clear hd
      simp only [e44] at hK
      have hK := Lib.hid hK
      go_wp2
      exact hK.out _ _ rfl (.refl _ _) nof
    refine steps2_cons ?_ ?_
    · as_aux_lemma =>
      intro f w1 hb hd Q hK
      have e44 : f 44 = .bool true := hd.1 rfl
      clear hd
      simp only [e44] at hK
      have hK := Lib.hid hK
      go_wp2
      exact hK.out _ _ rfl (.refl _ _) nof
    refine steps2_cons ?_ ?_
    · as_aux_lemma =>
      intro f w1 hb hd Q hK
      have e45 : f 45 = .slice (some ⟨g5, 0, none⟩) 32 32 := hd.1 rfl
      have e46 : f 46 = .slice (some ⟨g, o, none⟩) 32 c := hd.2.1 rfl
      have e44 : f 44 = .bool true := hd.2.2.1 rfl
      clear hd
      simp only [e45, e46, e44] at hK
      have hK := Lib.hid hK
      go_wp2_with fail
      refine (hSame.out g5 32 w1 (hb0.trans (hb.mono hb0.size)) (h5.out.below hb)).mono ?_
      rintro e w2 ⟨rfl, hb2⟩
      go_wp2
      exact hK.out _ _ rfl hb2 nof
    refine steps2_cons ?_ ?_
    · as_aux_lemma =>
      intro f w1 hb hd Q hK
      have e44 : f 44 = .bool true := hd.1 rfl
      have e47 : f 47 = .bool true := hd.2.1 rfl
      clear hd
      simp only [e44, e47] at hK
      have hK := Lib.hid hK
      go_wp2
      exact hK.out _ _ rfl (.refl _ _) nof
    refine steps2_cons ?_ ?_
    · as_aux_lemma =>
      intro f w1 hb hd Q hK
      have e48 : f 48 = .bool true := hd.1 rfl
      clear hd
      simp only [e48] at hK
      have hK := Lib.hid hK
      go_wp2
      exact hK.out _ _ rfl (.refl _ _) nof
    refine steps2_cons ?_ ?_
    · as_aux_lemma =>
      intro f w1 hb hd Q hK
      have e49 : f 49 = .bool true := hd.1 rfl
      clear hd
      simp only [e49] at hK
      have hK := Lib.hid hK
      refine ldTw (by simp only [e49]; kernel_rfl) rfl rfl (k6.below hb) ?_
      refine wpList_nil ?_
      simp only [e49]
      exact hK.out _ _ ⟨_, _, _, rfl, hR0.out⟩ (.refl _ _) nof
    refine steps2_cons ?_ ?_
    · as_aux_lemma =>
      intro f w1 hb hd Q hK
      obtain ⟨A50, B50, C50, e50, h50⟩ := (hd.1 rfl : RqP x y (f 50) w1)
      have e49 : f 49 = .bool true := hd.2.1 rfl
      clear hd
      simp only [e50, e49] at hK
      have hK := Lib.hid hK
      go_wp2_with fail
      refine (rbytes_c h50 _).mono ?_
      rintro e w2 ⟨g, c, hg, rfl, hR, hb2⟩
      go_wp2
      exact hK.out _ _ ⟨g, c, rfl, hR⟩ hb2 nof
    refine steps2_cons ?_ ?_
    · as_aux_lemma =>
      intro f w1 hb hd Q hK
      have e49 : f 49 = .bool true := hd.1 rfl
      clear hd
      simp only [e49] at hK
      have hK := Lib.hid hK
      go_wp2
      exact hK.out _ _ rfl (.refl _ _) nof
    refine steps2_cons ?_ ?_
    · as_aux_lemma =>
      intro f w1 hb hd Q hK
      obtain ⟨g51, c51, e51, h51⟩ := (hd.1 rfl : RbQ x y (f 51) w1)
      have e52 : f 52 = .slice (some ⟨g, o, none⟩) 32 c := hd.2.1 rfl
      have e49 : f 49 = .bool true := hd.2.2.2.1 rfl
      clear hd
      simp only [e51, e52, e49] at hK
      have hK := Lib.hid hK
      go_wp2_with fail
      refine (hSame.out g51 c51 w1 (hb0.trans (hb.mono hb0.size)) h51).mono ?_
      rintro e w2 ⟨rfl, hb2⟩
      go_wp2
      exact hK.out _ _ rfl hb2 nof
    refine steps2_cons ?_ ?_
    · as_aux_lemma =>
      intro f w1 hb hd Q hK
      have e49 : f 49 = .bool true := hd.1 rfl
      have e53 : f 53 = .bool true := hd.2.1 rfl
      clear hd
      simp only [e49, e53] at hK
      have hK := Lib.hid hK
      go_wp2
      exact hK.out _ _ rfl (.refl _ _) nof
    refine steps2_cons ?_ ?_
    · as_aux_lemma =>
      intro f w1 hb hd Q hK
      have e54 : f 54 = .bool true := hd.1 rfl
      clear hd
      simp only [e54] at hK
      have hK := Lib.hid hK
      go_wp2
      exact hK.out _ _ rfl (.refl _ _) nof
    refine steps2_cons ?_ ?_
    · as_aux_lemma =>
      intro f w1 hb hd Q hK
      have e55 : f 55 = .bool true := hd.1 rfl
      clear hd
      simp only [e55] at hK
      have hK := Lib.hid hK
      refine ldPtG (by simp only [e55]; kernel_rfl) rfl rfl (k4.below hb) ?_
      refine wpList_nil ?_
      simp only [e55]
      exact hK.out _ _ ⟨_, _, _, _, rfl, hE.out⟩ (.refl _ _) nof
    refine steps2_cons ?_ ?_
    · as_aux_lemma =>
      intro f w1 hb hd Q hK
      obtain ⟨X56, Y56, Z56, T56, e56, h56⟩ := (hd.1 rfl : PqP x y (f 56) w1)
      have e55 : f 55 = .bool true := hd.2.1 rfl
      clear hd
      simp only [e56, e55] at hK
      have hK := Lib.hid hK
      go_wp2_with fail
      refine (of_c h56 _).mono ?_
      rintro e w2 ⟨X, Y, Z, rfl, hx, hb2⟩
      go_wp2
      exact hK.out _ _ ⟨X, Y, Z, rfl, hx⟩ hb2 nof
    refine steps2_cons ?_ ?_
    · as_aux_lemma =>
      intro f w1 hb hd Q hK
      have e55 : f 55 = .bool true := hd.1 rfl
      clear hd
      simp only [e55] at hK
      have hK := Lib.hid hK
      refine ldTw (by simp only [e55]; kernel_rfl) rfl rfl (k6.below hb) ?_
      refine wpList_nil ?_
      simp only [e55]
      exact hK.out _ _ ⟨_, _, _, rfl, hR0.out⟩ (.refl _ _) nof
    refine steps2_cons ?_ ?_
    · as_aux_lemma =>
      intro f w1 hb hd Q hK
      obtain ⟨A57, B57, C57, e57, h57⟩ := (hd.1 rfl : RqP x y (f 57) w1)
      obtain ⟨A58, B58, C58, e58, h58⟩ := (hd.2.1 rfl : RqP x y (f 58) w1)
      have e55 : f 55 = .bool true := hd.2.2.2.1 rfl
      clear hd
      simp only [e57, e58, e55] at hK
      have hK := Lib.hid hK
      go_wp2_with fail
      refine (rsameV h57 h58 (same_reflG _ _) _).mono ?_
      rintro e w2 ⟨rfl, hb2⟩
      go_wp2
      exact hK.out _ _ rfl hb2 nof
    refine steps2_cons ?_ ?_
    · as_aux_lemma =>
      intro f w1 hb hd Q hK
      have e55 : f 55 = .bool true := hd.1 rfl
      have e59 : f 59 = .bool true := hd.2.1 rfl
      clear hd
      simp only [e55, e59] at hK
      have hK := Lib.hid hK
      go_wp2
      exact hK.out _ _ rfl (.refl _ _) nof
    refine steps2_cons ?_ ?_
    · as_aux_lemma =>
      intro f w1 hb hd Q hK
      have e60 : f 60 = .bool true := hd.1 rfl
      clear hd
      simp only [e60] at hK
      have hK := Lib.hid hK
      go_wp2
      exact hK.out _ _ rfl (.refl _ _) nof
    trivial
  intro f9 w10 hb hf hne
  refine wpList_nil ?_
  have d2 : f9 2 = .bool true := hf 19 _ _ (by decide) rfl rfl
  clear hf hne
  simp only [d2]
  have hP := Lib.hid (hb0.trans (hb.mono hb0.size))
  clear d2 hC9 hb hb0 k4 k6 h5
  go_wp2
  go_returns
  exact ⟨rfl, hP.out⟩
set_option maxRecDepth 20000 in
set_option maxHeartbeats 4000000 in
theorem gets_long (p : Option Addr) (n c : Nat) (h : (100 : Int) < n) (w : World) (hCv : CvP w) : Calls Tryd.prog 3 #[.slice p n c] w fun e w' => e = .returned (.bool true) ∧ Below w.heap.size w w' := by
  replace hCv := Lib.hid hCv
  go_enter Tryd.func3, Tryd.ntmps3
  go_wp2_with fail
  refine (awake4_c w hCv.out).mono ?_
  rintro e w1 ⟨rfl, hb0⟩
  replace hb0 := Lib.hid hb0
  go_wp2
  go_returns
  exact ⟨rfl, hb0.out⟩
theorem gets_any (p : Option Addr) (n c : Nat) (b : Nat → Int) (hr : ∀ j, 0 ≤ b j ∧ b j < 256) (w : World) (hS : SAt w p n c b) (hCv : CvP w) : Calls Tryd.prog 3 #[.slice p n c] w fun e w' => e = .returned (.bool true) ∧ Below w.heap.size w w' := by
  by_cases h1 : n ≤ 100
  · have hL := fun w' (hb : Below w.heap.size w w') => lentB_c p n c b (by omega) w' (hS.below hb)
    have hK := fun w' g' (hR : RowB w' g' (n + 12) (n + 12) (lentF n b)) (hb : Below w.heap.size w w') => keptB_c g' p n c b (by omega) w' (hS.below hb) hR
    by_cases h2 : n = 32
    · subst h2
      obtain ⟨g, o, rfl, hg, hc⟩ := hS.bat (by decide)
      cases hok : Fe.okB b
      · refine egets_F _ 32 c b (by decide) w hCv hL (fun w' g' hR hC => getn_c g' 0 (32 + 12) b hr w' hR.lt (fun j hj => by rw [Nat.zero_add, hR.cell j (by omega)]; unfold lentF; rw [if_pos hj]) hC hok) (fun w' hb => ?_) hK
        have h := rread_c g o c b hr w' (Nat.lt_of_lt_of_le hg hb.size) (fun j hj => (hb.cell (p := ⟨g, o + j, none⟩) hg).trans (hc j hj))
        rw [hok] at h
        refine h.mono ?_
        rintro e w' ⟨⟨cs, he, hs, ho, _⟩, hb⟩
        exact ⟨⟨cs, he, hs, ho, fun q => by cases q⟩, hb⟩
      exact egets_T g o c b hr w hCv hg hc hok
    exact egets_F p n c b h1 w hCv hL (fun w' g' _ _ => getx_c _ n _ h2 w') (fun w' _ => rread_x p n c h2 _ _ _ w') hK
  exact gets_long p n c (by omega) w hCv
end Go.Proofs.YtpaldgajkhmhbaaDoor

namespace Go.Proofs.YtpaldgajkhmhbaaDoor
open Go.RowKit
/-- 32 bytes of one's own, whatever they are -/
def RowA (w : World) (g c : Nat) : Prop := ∃ f : Nat → Int, (∀ j, 0 ≤ f j ∧ f j < 256) ∧ RowB w g 32 c f
theorem RowA.below {w w' : World} {g c : Nat} (h : RowA w g c) (hb : Below w.heap.size w w') : RowA w' g c := h.elim fun f h => ⟨f, h.1, h.2.below hb⟩
theorem RowA.far {w : World} {g c : Nat} (h : RowA w g c) {p : Addr} (hp : g ≠ p.block) (u : Value) : RowA (w.setCell p u) g c := h.elim fun f h => ⟨f, h.1, h.2.far hp u⟩
theorem RowA.set_ {w : World} {g c : Nat} (h : RowA w g c) (i : Nat) (hi : i < 32) (x : Int) (h0 : 0 ≤ x ∧ x < 256) : RowA (w.setCell ⟨g, i, none⟩ (.int .u8 x)) g c := h.elim fun f h => ⟨_, fun j => by
  show 0 ≤ (if j = i then x else f j) ∧ (if j = i then x else f j) < 256
  split
  · exact h0
  exact h.1 j, h.2.set_ i hi x⟩
theorem RowA.lt {w : World} {g c : Nat} (h : RowA w g c) : g < w.heap.size := h.elim fun _ h => h.2.lt
theorem RowA.cell {w : World} {g c : Nat} (h : RowA w g c) (i : Nat) (hi : i < 32) : ∃ x, w.cell? ⟨g, i, none⟩ = some (.int .u8 x) := h.elim fun f h => ⟨f i, h.2.cell i hi⟩
theorem RowA.frozen {w : World} {g c : Nat} (h : RowA w g c) (i : Nat) : w.frozen? ⟨g, i, none⟩ = false := h.elim fun _ h => h.2.frozen i
theorem RowA.cap {w : World} {g c : Nat} (h : RowA w g c) : 32 ≤ c := h.elim fun _ h => h.2.elim fun _ h => h.2.1
theorem RowA.gets {w : World} {g c n : Nat} (h : RowA w g c) (hn : n ≤ 32) (hC : CvP w) (c' : Nat) : Calls Tryd.prog 3 #[.slice (some ⟨g, 0, none⟩) n c'] w fun e w' => e = .returned (.bool true) ∧ Below w.heap.size w w' := by
  obtain ⟨f, hr, hR⟩ := h
  exact gets_any _ n c' f hr w (.inr (.inr ⟨g, 0, rfl, hR.lt, fun j hj => by rw [Nat.zero_add]; exact hR.cell j (by omega)⟩)) hC
/-- one byte in a new block -/
theorem one_row (w : World) (x : Int) : (w.alloc (.cells #[.int .u8 x] 5)).cell? ⟨w.heap.size, 0, none⟩ = some (.int .u8 x) := by
  have h := heap_alloc_new w (.cells #[.int .u8 x] 5)
  rw [cell_of_row _ w.heap.size 0 _ 5 (0, 0) h]
  rfl
theorem fz_r {x : Int} (hx : 0 ≤ x ∧ x < 256) (n j : Nat) : 0 ≤ fz (fun _ => x) n j ∧ fz (fun _ => x) n j < 256 := by
  unfold fz
  split <;> omega
theorem ordB_r (x : Int) (h : 0 ≤ x ∧ x < 256) (j : Nat) : 0 ≤ Fe.ordB x j ∧ Fe.ordB x j < 256 := by
  unfold Fe.ordB
  rcases Nat.lt_or_ge j 32 with hj | hj
  · match j, hj with
    | 0, _ => exact h
    | k + 1, hj =>
      have : ∀ k : Fin 31, 0 ≤ [(211 : Int), 245, 92, 26, 99, 18, 88, 214, 156, 247, 162, 222, 249, 222, 20, 0, 0, 0, 0, 0, 0, 0, 0, 0, 0, 0, 0, 0, 0, 0, 16].getD k.val 0 ∧ [(211 : Int), 245, 92, 26, 99, 18, 88, 214, 156, 247, 162, 222, 249, 222, 20, 0, 0, 0, 0, 0, 0, 0, 0, 0, 0, 0, 0, 0, 0, 0, 16].getD k.val 0 < 256 := by decide
      exact this ⟨k, by omega⟩
  rw [List.getD_eq_getElem?_getD, List.getElem?_eq_none (by simpa using hj)]
  exact ⟨Int.le_refl _, by decide⟩
theorem ord_set {w : World} {g : Nat} {x : Int} (h : RowB w g 32 32 (Fe.ordB x)) (y : Int) : RowB (w.setCell ⟨g, 0, none⟩ (.int .u8 y)) g 32 32 (Fe.ordB y) := (h.set_ 0 (by decide) y).congr fun i _ => by
  match i with
  | 0 => rfl
  | k + 1 => rfl
set_option maxRecDepth 20000 in
set_option maxHeartbeats 4000000 in
theorem padd0_c (w : World) : Calls Tryd.prog 40 #[.slice none 0 0] w (PostQ 0 1 w) := by
  go_enter Tryd.func40, Tryd.ntmps40
  go_wp2_with fail
  refine calls_at (fun W0 hW => ?_)
  have k0 : Blk W0 w.heap.size 29 (pcs ⟨0, 0, 0, 0, 0⟩ ⟨0, 0, 0, 0, 0⟩ ⟨0, 0, 0, 0, 0⟩ ⟨0, 0, 0, 0, 0⟩) := by rw [hW]; exact Blk.new _ _ _
  have hb0 : Below w.heap.size w W0 := by rw [hW]; go_grown
  clear hW
  obtain ⟨G0, hG0⟩ : ∃ G0, G0 = w.heap.size := ⟨_, rfl⟩
  rw [← hG0] at k0 ⊢
  have lo0 : w.heap.size ≤ G0 := by omega
  clear hG0
  refine (zero4_c _).mono ?_
  rintro e w1 ⟨rfl, hb⟩
  replace k0 := k0.below hb
  replace hb0 := hb0.trans (hb.mono hb0.size)
  clear hb
  have hlt := k0.lt
  go_wp2_with (first | (refine stSm (X := ⟨0, 0, 0, 0, 0⟩) (Y := ⟨1, 0, 0, 0, 0⟩) (Z := ⟨1, 0, 0, 0, 0⟩) (T := ⟨0, 0, 0, 0, 0⟩) rfl rfl rfl rfl (Blk.new _ _ _) rfl ?_; intro W1 kS1 hgr hsz; obtain ⟨V6, hV6⟩ : ∃ V : Value, V = .agg #[.int .u64 0, .int .u64 0, .int .u64 0, .int .u64 0, .int .u64 0, .int .u64 1, .int .u64 0, .int .u64 0, .int .u64 0, .int .u64 0, .int .u64 1, .int .u64 0, .int .u64 0, .int .u64 0, .int .u64 0, .int .u64 0, .int .u64 0, .int .u64 0, .int .u64 0, .int .u64 0] := ⟨_, rfl⟩; rw [← hV6]; clear hV6))
  have hb : Below w1.heap.size w1 W1 := ((Below.refl _ _).alloc (Nat.le_refl _) _).grown hgr (by rw [World.size_alloc]; omega) (fun k hk => by injection hk with hk; omega)
  have kS : SumQ W1 w1.heap.size 0 1 := ⟨_, _, _, _, kS1, ptE_zero⟩
  clear kS1 hgr hsz hlt
  obtain ⟨GS, hGS⟩ : ∃ GS, GS = w1.heap.size := ⟨_, rfl⟩
  rw [← hGS] at kS ⊢
  have n0S : GS ≠ G0 := by have := k0.lt; omega
  have loS : w.heap.size ≤ GS := by have := hb0.size; omega
  replace k0 := k0.below hb
  replace hb0 := hb0.trans (hb.mono hb0.size)
  clear hb hGS
  replace kS := Lib.hid kS
  go_loopw [10] (fun i wr => i = .int .i64 0 ∧ SumQ wr GS 0 1 ∧ Blk wr G0 29 (pcs ⟨0, 0, 0, 0, 0⟩ ⟨0, 0, 0, 0, 0⟩ ⟨0, 0, 0, 0, 0⟩ ⟨0, 0, 0, 0, 0⟩) ∧ Below w.heap.size w wr) (fun _ _ => 0)
  case atStart => exact ⟨rfl, kS.out, k0, hb0⟩
  case round =>
    clear kS k0 hb0
    obtain ⟨hi, hS, k0, hb0⟩ := hrel
    subst hi
    obtain ⟨X, Y, Z, T, kS, hE⟩ := hS
    replace hE := Lib.hid hE
    go_wp2_with (first | (refine ldPt rfl rfl rfl kS rfl ?_) | (refine stPt rfl rfl rfl rfl k0 rfl rfl (by kernel_rfl) ?_; intro w9 k7 hgr hsz))
    exact retPt rfl rfl k7 rfl rfl ⟨X, Y, Z, T, rfl, hE.out, hb0.grown hgr hb0.size (fun k hk => by injection hk with hk; omega)⟩
set_option maxRecDepth 20000 in
set_option maxHeartbeats 8000000 in
theorem numbers4_c (w : World) (hCv : CvP w) : Calls Tryd.prog 9 #[] w fun e w' => e = .returned (.bool true) ∧ Below w.heap.size w w' := by
  replace hCv := Lib.hid hCv
  go_enter Tryd.func9, Tryd.ntmps9
  go_wp2_with fail
  refine (awake4_c w hCv.out).mono ?_
  rintro e w1 ⟨rfl, hb0⟩
  go_wp2
  go_loopw [1] (fun i wr => ∃ k : Nat, k ≤ 40 ∧ i = .int .i64 k ∧ Below w.heap.size w wr) (fun i _ => (40 - intOf i).toNat)
  case atStart => exact ⟨0, by omega, rfl, hb0⟩
  case round =>
    clear hb0
    obtain ⟨k, hk, hi, hb0⟩ := hrel
    subst hi
    by_cases he : k = 40
    · have h40 : (k : Int) = 40 := by omega
      rw [h40]
      clear h40 he hk
      go_wp2_with fail
      refine at_world (fun W1 hW => ?_)
      have od : RowB W1 wr.heap.size 32 32 (Fe.ordB 237) := by rw [hW]; exact ⟨_, heap_alloc_new wr _, Nat.le_refl _, by unfold maxLen; omega, rfl, by rfl⟩
      have hb1 : Below w.heap.size w W1 := by rw [hW]; exact hb0.alloc hb0.size _
      have lo : w.heap.size ≤ wr.heap.size := hb0.size
      obtain ⟨go, hgo⟩ : ∃ g, g = wr.heap.size := ⟨_, rfl⟩
      rw [← hgo] at od lo ⊢
      clear hgo hW hb0
      replace od := Lib.hid od
      go_loopw [7] (fun i wr => ∃ m : Nat, m ≤ 3 ∧ i = .int .i64 m ∧ (∃ x : Int, (0 ≤ x ∧ x < 256) ∧ RowB wr go 32 32 (Fe.ordB x)) ∧ Below w.heap.size w wr) (fun i _ => (3 - intOf i).toNat)
      case atStart => exact ⟨0, by omega, rfl, ⟨237, by decide, od.out⟩, hb1⟩
      case round =>
        clear od hb1
        obtain ⟨m, hm, hi, ⟨x, hx, od⟩, hb1⟩ := hrel
        subst hi
        by_cases he : m = 3
        · have h3 : (m : Int) = 3 := by omega
          rw [h3]
          clear h3 he hm
          have c0 := od.cell 0 (by decide)
          have fz := fun i => od.frozen i
          have hl := od.lt
          have od' := Lib.hid (ord_set od 237)
          have hb' := Lib.hid (hb1.setCell (p := ⟨go, 0, none⟩) lo (.int .u8 237))
          clear od hb1 hx
          go_wp2_with fail
          refine calls_at (fun W2 hW => ?_)
          have od2 := Lib.hid (show RowB W2 go 32 32 (Fe.ordB 237) by rw [hW]; exact od'.out)
          have hb2 : Below w.heap.size w W2 := by rw [hW]; exact hb'.out
          clear hW od' hb' c0 fz hl
          refine (base_c W2 (hCv.out.below hb2 hCv.out.lt)).mono ?_
          rintro e w3 ⟨X, Y, Z, T, rfl, hE, hb⟩
          have od3 := Lib.hid (od2.out.below hb)
          have hb3 := hb2.trans (hb.mono hb2.size)
          replace hE := Lib.hid hE
          clear hb hb2 od2
          go_wp2_with fail
          refine (pmul_c go 0 32 (Fe.ordB 237) (ordB_r 237 (by decide)) w3 od3.out.lt (fun j hj => by rw [Nat.zero_add]; exact od3.out.cell j hj) hE.out (hCv.out.below hb3 hCv.out.lt)).mono ?_
          rintro e w4 ⟨X2, Y2, Z2, T2, rfl, hE2, hb⟩
          have hz : mulS (Fe.zf Fe.bX) (Fe.zf Fe.bY) (upto (fun i => (256 - 1 - i, bitB (Fe.ordB 237) (256 - 1 - i))) 256) = (0, 1) := by
            have := Fe.ord_zero Fe.ord_bits
            unfold mulY at this
            rwa [if_pos rfl] at this
          rw [hz] at hE2
          have hb4 := hb3.trans (hb.mono hb3.size)
          replace hE2 := Lib.hid hE2
          clear hb hb3 od3 hE hz
          go_wp2_with fail
          refine (pzero_c w4).mono ?_
          rintro e w5 ⟨X3, Y3, Z3, T3, rfl, hE3, hb⟩
          have hb5 := hb4.trans (hb.mono hb4.size)
          replace hE3 := Lib.hid hE3
          clear hb hb4
          go_wp2_with fail
          refine (pssameV hE2.out hE3.out (same_reflG _ _) w5).mono ?_
          rintro e w6 ⟨rfl, hb⟩
          have hb6 := hb5.trans (hb.mono hb5.size)
          clear hb hb5 hE2 hE3
          go_wp2_with fail
          refine (padd0_c w6).mono ?_
          rintro e w7 ⟨X4, Y4, Z4, T4, rfl, hE4, hb⟩
          have hb7 := hb6.trans (hb.mono hb6.size)
          replace hE4 := Lib.hid hE4
          clear hb hb6
          go_wp2_with fail
          refine (pzero_c w7).mono ?_
          rintro e w8 ⟨X5, Y5, Z5, T5, rfl, hE5, hb⟩
          have hb8 := hb7.trans (hb.mono hb7.size)
          replace hE5 := Lib.hid hE5
          clear hb hb7
          go_wp2_with fail
          refine (pssameV hE4.out hE5.out (same_reflG _ _) w8).mono ?_
          rintro e w9 ⟨rfl, hb⟩
          have hP := Lib.hid (hb8.trans (hb.mono hb8.size))
          clear hb hb8 hE4 hE5
          go_wp2
          go_returns
          exact ⟨rfl, hP.out⟩
        have hm0 : (0 : Int) ≤ (m : Int) := by omega
        have hm1 : (m : Int) < 3 := by omega
        have hm2 : Hid (m + 1 ≤ 3) := Lib.hid (by omega)
        have hx2 : 0 ≤ (236 + (m : Int)) ∧ (236 + (m : Int)) < 256 := by omega
        have c0 := od.cell 0 (by decide)
        have fz := fun i => od.frozen i
        have hl := od.lt
        have od' := Lib.hid (ord_set od (236 + (m : Int)))
        have hb' := Lib.hid (hb1.setCell (p := ⟨go, 0, none⟩) lo (.int .u8 (236 + (m : Int))))
        clear od hb1 hx he hm
        go_wp2_with fail
        refine calls_at (fun W2 hW => ?_)
        have sz : (wr.setCell ⟨go, 0, none⟩ (.int .u8 (236 + (m : Int)))).heap.size = wr.heap.size := by simp [World.setCell]
        have od2 : RowB W2 go 32 32 (Fe.ordB (236 + (m : Int))) := by rw [hW]; exact od'.out.below ((Below.refl _ _).alloc (Nat.le_refl _) _)
        have hb2 : Below w.heap.size w W2 := by rw [hW]; exact hb'.out.alloc hb'.out.size _
        have cl1 : W2.cell? ⟨wr.heap.size, 0, none⟩ = some (.int .u8 (m : Int)) := by
          have := one_row (wr.setCell ⟨go, 0, none⟩ (.int .u8 (236 + (m : Int)))) (m : Int)
          rw [sz] at this
          rw [hW]
          exact this
        have lt1 : wr.heap.size < W2.heap.size := by rw [hW, World.size_alloc, sz]; omega
        clear hW od' hb' c0 fz hl sz
        refine (bytes32_c wr.heap.size 0 1 1 (fun _ => (m : Int)) (by decide) (by decide) W2 lt1 (fun j hj => by obtain rfl : j = 0 := (by omega); exact cl1)).mono ?_
        rintro e w3 ⟨ga, ca, rfl, _, hRa, hb⟩
        have ra : RowA w3 ga ca := ⟨_, fun j => fz_r ⟨hm0, by omega⟩ 1 j, hRa⟩
        have od3 := od2.below hb
        have hb3 := hb2.trans (hb.mono hb2.size)
        clear hb hRa hb2 od2 cl1 lt1
        replace ra := Lib.hid ra
        replace od3 := Lib.hid od3
        go_wp2_with fail
        refine calls_at (fun W3 hW => ?_)
        have hb4 : Below w3.heap.size w3 W3 := by rw [hW]; exact (Below.refl _ _).alloc (Nat.le_refl _) _
        have cl1 : W3.cell? ⟨w3.heap.size, 0, none⟩ = some (.int .u8 (m : Int)) := by rw [hW]; exact one_row _ _
        have lt1 : w3.heap.size < W3.heap.size := by rw [hW, World.size_alloc]; omega
        clear hW
        have ra4 := ra.out.below hb4
        have od4 := od3.out.below hb4
        have hb5 := hb3.trans (hb4.mono hb3.size)
        clear ra od3 hb3 hb4
        refine (bytes32_c w3.heap.size 0 1 1 (fun _ => (m : Int)) (by decide) (by decide) W3 lt1 (fun j hj => by obtain rfl : j = 0 := (by omega); exact cl1)).mono ?_
        rintro e w4 ⟨gb, cb, rfl, _, hRb, hb⟩
        have rb : RowA w4 gb cb := ⟨_, fun j => fz_r ⟨hm0, by omega⟩ 1 j, hRb⟩
        have ra5 := ra4.below hb
        have od5 := od4.below hb
        have hb6 := hb5.trans (hb.mono hb5.size)
        clear hb hRb hb5 od4 ra4 cl1 lt1
        replace ra5 := Lib.hid ra5
        replace rb := Lib.hid rb
        replace od5 := Lib.hid od5
        go_wp2_with fail
        obtain ⟨fa, hfa, hRa⟩ := ra5.out
        obtain ⟨fb, hfb, hRb⟩ := rb.out
        refine (mul4_c (some ⟨go, 0, none⟩) 32 32 (Fe.ordB (236 + (m : Int))) (some ⟨ga, 0, none⟩) 32 ca fa (some ⟨gb, 0, none⟩) 32 cb fb (ordB_r _ hx2) hfa hfb (by decide) (by decide) (by decide) w4
          (.inr (.inr ⟨go, 0, rfl, od5.out.lt, fun j hj => by rw [Nat.zero_add]; exact od5.out.cell j hj⟩)) (.inr (.inr ⟨ga, 0, rfl, hRa.lt, fun j hj => by rw [Nat.zero_add]; exact hRa.cell j hj⟩)) (.inr (.inr ⟨gb, 0, rfl, hRb.lt, fun j hj => by rw [Nat.zero_add]; exact hRb.cell j hj⟩)) (hCv.out.below hb6 hCv.out.lt)).mono ?_
        rintro e w5 ⟨rfl, hb⟩
        have od6 := Lib.hid (od5.out.below hb)
        have hb7 := Lib.hid (hb6.trans (hb.mono hb6.size))
        clear hb hb6 od5 ra5 rb hRa hRb hfa hfb
        have hx3 := Lib.hid hx2
        clear hx2
        go_wp2
        go_roundw
        case rel => exact ⟨m + 1, hm2.out, by simp, ⟨_, hx3.out, od6.out⟩, hb7.out⟩
        case measure => simp [intOf]; omega
    have hk0 : (0 : Int) ≤ (k : Int) := by omega
    have hk1 : (k : Int) < 40 := by omega
    have hkm : Hid (k + 1 ≤ 40) := Lib.hid (by omega)
    clear he hk
    go_wp2_with fail
    refine calls_at (fun W0 hW => ?_)
    have hb1 : Below w.heap.size w W0 := by rw [hW]; exact hb0.alloc hb0.size _
    have lt1 : wr.heap.size < W0.heap.size := by rw [hW, World.size_alloc]; omega
    have cl1 : W0.cell? ⟨wr.heap.size, 0, none⟩ = some (.int .u8 (k : Int)) := by rw [hW]; exact one_row _ _
    clear hW hb0
    refine (bytes32_c wr.heap.size 0 1 1 (fun _ => (k : Int)) (by decide) (by decide) W0 lt1 (fun j hj => by obtain rfl : j = 0 := (by omega); exact cl1)).mono ?_
    rintro e w2 ⟨gl, cl, rfl, hgl, hRl, hb⟩
    have low : RowA w2 gl cl := ⟨_, fun j => fz_r ⟨hk0, by omega⟩ 1 j, hRl⟩
    have hb2 := hb1.trans (hb.mono hb1.size)
    have lol : w.heap.size ≤ gl := Nat.le_trans hb1.size hgl
    clear hb hRl hb1 lt1 cl1 hgl
    have capl := low.cap
    replace low := Lib.hid low
    go_wp2_with fail
    refine (bytes0_c w2).mono ?_
    rintro e w3 ⟨gh, ch, rfl, hgh, hRh, hb⟩
    have high : RowA w3 gh ch := ⟨_, fun _ => ⟨Int.le_refl _, by decide⟩, hRh⟩
    have nlh : gl ≠ gh := by have := low.out.lt; omega
    have loh : w.heap.size ≤ gh := Nat.le_trans hb2.size hgh
    replace low := Lib.hid (low.out.below hb)
    have hb3 := hb2.trans (hb.mono hb2.size)
    clear hb hRh hb2 hgh
    replace high := Lib.hid high
    go_wp2
    go_loopw [4] (fun i wr => ∃ m : Nat, m ≤ 32 ∧ i = .int .i64 m ∧ RowA wr gl cl ∧ RowA wr gh ch ∧ Below w.heap.size w wr) (fun i _ => (32 - intOf i).toNat)
    case atStart => exact ⟨0, by omega, rfl, low.out, high.out, hb3⟩
    case round =>
      clear low high hb3
      obtain ⟨m, hm, hi, low, high, hb3⟩ := hrel
      subst hi
      by_cases he : m = 32
      · have h32 : (m : Int) = 32 := by omega
        rw [h32]
        clear h32 he hm
        have hw1 : (216 + (k : Int)) % 256 = 216 + (k : Int) := by omega
        obtain ⟨x0, c0⟩ := high.cell 0 (by decide)
        obtain ⟨x31, c31⟩ := high.cell 31 (by decide)
        have fz := fun i => high.frozen i
        have hl := high.lt
        replace low := Lib.hid low
        replace high := Lib.hid high
        replace hb3 := Lib.hid hb3
        go_wp2
        refine at_world (fun W4 hW => ?_)
        have low4 := Lib.hid (show RowA W4 gl cl by rw [hW]; exact (low.out.far (p := ⟨gh, 0, none⟩) nlh _).far (p := ⟨gh, 31, none⟩) nlh _)
        have high4 := Lib.hid (show RowA W4 gh ch by rw [hW]; exact (high.out.set_ 0 (by decide) _ (by omega)).set_ 31 (by decide) _ (by decide))
        have hb4 := Lib.hid (show Below w.heap.size w W4 by rw [hW]; exact (hb3.out.setCell (p := ⟨gh, 0, none⟩) loh _).setCell (p := ⟨gh, 31, none⟩) loh _)
        clear hW low high hb3 c0 c31 fz hl hw1
        go_loopw [5] (fun i wr => ∃ m : Nat, m ≤ 2 ∧ i = .int .i64 m ∧ RowA wr gl cl ∧ RowA wr gh ch ∧ Below w.heap.size w wr) (fun i _ => (2 - intOf i).toNat)
        case atStart => exact ⟨0, by omega, rfl, low4.out, high4.out, hb4.out⟩
        case round =>
          clear low4 high4 hb4
          obtain ⟨m, hm, hi, low, high, hb5⟩ := hrel
          subst hi
          by_cases he : m = 2
          · subst he
            replace low := Lib.hid low
            replace high := Lib.hid high
            replace hb5 := Lib.hid hb5
            go_wp2
            go_roundw
            case rel => exact ⟨k + 1, hkm.out, by simp, hb5.out⟩
            case measure => simp [intOf]; omega
          have hm0 : (0 : Int) ≤ (m : Int) := by omega
          have hm1 : (m : Int) < 2 := by omega
          have hm2 : Hid (m + 1 ≤ 2) := Lib.hid (by omega)
          have hl0 : 0 ≤ (128 * (m : Int)) ∧ (128 * (m : Int)) < 256 := by omega
          have hl1 : 0 ≤ (127 + 128 * (m : Int)) ∧ (127 + 128 * (m : Int)) < 256 := by omega
          obtain ⟨x0, c0⟩ := low.cell 31 (by decide)
          obtain ⟨x31, c31⟩ := high.cell 31 (by decide)
          have fz0 := fun i => low.frozen i
          have fz1 := fun i => high.frozen i
          have hll := low.lt
          have hlh := high.lt
          replace low := Lib.hid low
          replace high := Lib.hid high
          replace hb5 := Lib.hid hb5
          clear he hm
          go_wp2_with fail
          refine calls_at (fun W5 hW => ?_)
          have low5 : RowA W5 gl cl := by rw [hW]; exact (low.out.set_ 31 (by decide) _ hl0).far (p := ⟨gh, 31, none⟩) nlh _
          have high5 : RowA W5 gh ch := by rw [hW]; exact (high.out.far (p := ⟨gl, 31, none⟩) nlh.symm _).set_ 31 (by decide) _ hl1
          have hb6 : Below w.heap.size w W5 := by rw [hW]; exact (hb5.out.setCell (p := ⟨gl, 31, none⟩) lol _).setCell (p := ⟨gh, 31, none⟩) loh _
          clear hW low high hb5 c0 c31 fz0 fz1 hll hlh hl0 hl1
          refine (low5.gets (n := 32) (Nat.le_refl _) (hCv.out.below hb6 hCv.out.lt) cl).mono ?_
          rintro e w6 ⟨rfl, hb⟩
          have low6 := Lib.hid (low5.below hb)
          have high6 := Lib.hid (high5.below hb)
          replace hb6 := hb6.trans (hb.mono hb6.size)
          clear hb low5 high5
          go_wp2_with fail
          refine (high6.out.gets (n := 32) (Nat.le_refl _) (hCv.out.below hb6 hCv.out.lt) ch).mono ?_
          rintro e w7 ⟨rfl, hb⟩
          have low7 := Lib.hid (low6.out.below hb)
          have high7 := Lib.hid (high6.out.below hb)
          replace hb6 := hb6.trans (hb.mono hb6.size)
          clear hb low6 high6
          have capi : (31 : Int) ≤ (cl : Int) := by omega
          go_wp2_with fail
          refine (low7.out.gets (n := 31) (by decide) (hCv.out.below hb6 hCv.out.lt) cl).mono ?_
          rintro e w8 ⟨rfl, hb⟩
          have low8 := Lib.hid (low7.out.below hb)
          have high8 := Lib.hid (high7.out.below hb)
          replace hb6 := Lib.hid (hb6.trans (hb.mono hb6.size))
          clear hb low7 high7
          go_wp2
          go_roundw
          case rel => exact ⟨m + 1, hm2.out, by simp, low8.out, high8.out, hb6.out⟩
          case measure => simp [intOf]; omega
      have hm0 : (0 : Int) ≤ (m : Int) := by omega
      have hm1 : (m : Int) < 32 := by omega
      obtain ⟨x0, c0⟩ := high.cell m (by omega)
      have fz := fun i => high.frozen i
      have hl := high.lt
      have low' := Lib.hid (low.far (p := ⟨gh, m, none⟩) nlh (.int .u8 255))
      have high' := Lib.hid (high.set_ m (by omega) 255 (by decide))
      have hb' := Lib.hid (hb3.setCell (p := ⟨gh, m, none⟩) loh (.int .u8 255))
      clear low high hb3 he hm
      go_wp2
      go_roundw
      case rel => exact ⟨m + 1, by omega, by simp, low'.out, high'.out, hb'.out⟩
      case measure => simp [intOf]; omega
end Go.Proofs.YtpaldgajkhmhbaaDoor

namespace Go.Proofs.YtpaldgajkhmhbaaDoor
open Go.RowKit
end Go.Proofs.YtpaldgajkhmhbaaDoor

namespace Go.Proofs.YtpaldgajkhmhbaaDoor
open Go.RowKit Go.WideShapes Go.ChangeShapes
section
variable {H : Type} {enc : TypeId × Value → H} {P : Program}
theorem post_of_below {f : Func} {s : ChangeSpec} {apart fresh handsOn again : Bool} {W W' : World} {args : Array Value} {v : Value} {ds gs : List (DataW H)} {before pa pv : List MemPlace}
    (hW : DataW.Whole enc P f.params.toList s.vars apart W args.toList ds gs before)
    (hres : ∀ (b : Nat) (sp : Nat → Bool) (hd : Bool), DataW.TrodAll enc P W' b sp hd f.resultTypes.toList (v.resultList f.resultTypes.size) (s.fn H (ds ++ gs)).results [])
    (hargs : ∀ sp : Nat → Bool, (∀ p ∈ before, sp p.block = true) → DataW.TrodAll enc P W' 0 sp true f.params.toList args.toList (s.fn H (ds ++ gs)).args pa)
    (hvars : ∀ sp : Nat → Bool, (∀ p ∈ before, sp p.block = true) → DataW.TrodVars enc P W' sp s.vars (s.fn H (ds ++ gs)).vars pv)
    (hps : before = pa ++ pv) (hb : Below W.heap.size W W')
    (hok : ∀ (j : Nat) (t : TypeId) (r : Value), f.resultTypes[j]? = some t → (v.resultList f.resultTypes.size)[j]? = some r → Value.okWide P W' .any 0 t r) :
    s.post enc P f apart fresh handsOn again W args v W' := by
  have hlt : ∀ p ∈ before, p.block < W.heap.size := fun p hp => hW.lt p hp
  have hold : ∀ p ∈ before, (fun b => decide (b < W.heap.size)) p.block = true := fun p hp => by simpa using hlt p hp
  refine ⟨ds, gs, before, [], pa, pv, hW, hres _ _ _, hargs _ hold, hvars _ hold, World.keptBut_mono (fun p hp => ⟨hp, ?_⟩) (hb.frame (· ∈ before)), fun _ => ?_⟩
  · rw [hps, List.mem_append] at hp
    exact Or.inr hp
  obtain ⟨_, _, _, _, _, hz, hn⟩ := hW
  refine ⟨hok, _, _, ([] ++ pa) ++ pv, ⟨[] ++ pa, pv, trodAll_append (hargs _ (fun _ _ => rfl)) (hres _ _ _), hvars _ (fun _ _ => rfl), rfl, ?_, ?_⟩, ?_⟩
  · intro b off hp
    have hin : MemPlace.cell b off ∈ before := by rw [hps]; simpa using hp
    rw [hb.frozen (hlt _ hin)]
    exact hz b off hin
  · intro ha
    have := hn ha
    rw [hps] at this
    simpa using this
  intro p hp _
  rw [hps]
  simpa using hp
end
end Go.Proofs.YtpaldgajkhmhbaaDoor

namespace Go.Proofs.YtpaldgajkhmhbaaDoor
open Go.ChangeShapes Go.WideShapes Go.ChangeAt Go.RowKit
section
variable {H : Type} {enc : TypeId × Value → H} {P : Program} {w : World} {base : Nat} {spare : Nat → Bool} {held : Bool}
theorem trod_array5 {t e : TypeId} {fuel : Nat} {cs : List Value} {x : DataW H × List MemPlace} (ht : P.underlying t = some (.array 5 e)) (hce : P.cellsOf e = 1) (hct : P.cellsOf t = 5)
    (h : DataW.trod enc P w base spare held fuel t cs = some x) : ∃ c0 c1 c2 c3 c4, cs = [c0, c1, c2, c3, c4] ∧
    ∃ y0 y1 y2 y3 y4 n, x = (.agg [y0.1, y1.1, y2.1, y3.1, y4.1], y0.2 ++ (y1.2 ++ (y2.2 ++ (y3.2 ++ y4.2)))) ∧ DataW.trod enc P w base spare held n e [c0] = some y0 ∧ DataW.trod enc P w base spare held n e [c1] = some y1 ∧ DataW.trod enc P w base spare held n e [c2] = some y2 ∧ DataW.trod enc P w base spare held n e [c3] = some y3 ∧ DataW.trod enc P w base spare held n e [c4] = some y4 := by
  cases fuel with
  | zero => simp [DataW.trod] at h
  | succ n =>
    unfold DataW.trod at h
    rw [ht] at h
    have r5 : List.range 5 = [0, 1, 2, 3, 4] := rfl
    simp [r5, hce, hct] at h
    obtain ⟨hl, h⟩ := h
    match cs, hl, h with
    | [c0, c1, c2, c3, c4], _, h =>
      refine ⟨c0, c1, c2, c3, c4, rfl, ?_⟩
      simp at h
      cases h0 : DataW.trod enc P w base spare held n e [c0] with
      | none => simp [h0] at h
      | some y0 =>
        cases h1 : DataW.trod enc P w base spare held n e [c1] with
        | none => simp [h0, h1] at h
        | some y1 =>
          cases h2 : DataW.trod enc P w base spare held n e [c2] with
          | none => simp [h0, h1, h2] at h
          | some y2 =>
            cases h3 : DataW.trod enc P w base spare held n e [c3] with
            | none => simp [h0, h1, h2, h3] at h
            | some y3 =>
              cases h4 : DataW.trod enc P w base spare held n e [c4] with
              | none => simp [h0, h1, h2, h3, h4] at h
              | some y4 =>
                simp [h0, h1, h2, h3, h4] at h
                exact ⟨y0, y1, y2, y3, y4, n, h.symm, h0, h1, h2, h3, h4⟩
end
end Go.Proofs.YtpaldgajkhmhbaaDoor

namespace Go.Proofs.YtpaldgajkhmhbaaDoor
open Go.ChangeShapes Go.WideShapes Go.ChangeAt Go.WideMaps Go.WideElems Go.RowKit

theorem own_ : ownKnob Tryd.prog.godebug = none := by kernel_rfl
theorem bool_under : Tryd.prog.underlying 4 = some .bool := by kernel_rfl
def laidE : List (String × DataW Unit) := [("buttress/edwards.curve", Rows.laid_buttress_edwards_curve), ("buttress/edwards.twice", Rows.laid_buttress_edwards_twice)]
theorem gCurve : Tryd.prog.globalNamed "buttress/edwards.curve" = some 0 := by kernel_rfl
theorem gTwice : Tryd.prog.globalNamed "buttress/edwards.twice" = some 1 := by kernel_rfl
theorem tCurve : (Tryd.prog.globals[0]?).map (·.type) = some 27 := by kernel_rfl
theorem tTwice : (Tryd.prog.globals[1]?).map (·.type) = some 27 := by kernel_rfl
theorem el_under : Tryd.prog.underlying 27 = some (.array 5 25) := by kernel_rfl
theorem u64_u : Tryd.prog.underlying 25 = some (.int .u64) := by kernel_rfl
theorem u64_cells : Tryd.prog.cellsOf 25 = 1 := by kernel_rfl
theorem el_cells : Tryd.prog.cellsOf 27 = 5 := by kernel_rfl
theorem door_met (os : Os) (args : Array Value) : laidMetH Tryd.prog laidE ((World.doorLaid Tryd.prog 400 os).forCall (fun _ _ => 0) ⟨#[], args, []⟩).memory :=
  laidMetH_of_parts3 (fuel := 8) (laidMet_of_run' 8 (by kernel_rfl) (by kernel_rfl)) (by kernel_rfl) (by kernel_rfl)
/-- what the two variables hold -/
theorem of_laid {W : World} (h : laidMetH Tryd.prog laidE W) : CvP W := by
  rw [MakeChecks.laidMetH_plain _ _ _ (by kernel_rfl)] at h
  obtain ⟨ps, ⟨g0, t0, cs0, f0, p0, q0, hg0, ht0, hv0, hd0, ⟨g1, t1, cs1, f1, p1, q1, hg1, ht1, hv1, hd1, _, _⟩, _⟩, _, _⟩ := h
  obtain rfl := Option.some.inj (gCurve.symm.trans hg0)
  obtain rfl := Option.some.inj (gTwice.symm.trans hg1)
  obtain rfl := Option.some.inj (tCurve.symm.trans ht0)
  obtain rfl := Option.some.inj (tTwice.symm.trans ht1)
  obtain ⟨a0, a1, a2, a3, a4, ha, y0, y1, y2, y3, y4, n, hx, h0, h1, h2, h3, h4⟩ := trod_array5 el_under u64_cells el_cells hd0
  obtain ⟨b0, b1, b2, b3, b4, hb, z0, z1, z2, z3, z4, m, hz, k0, k1, k2, k3, k4⟩ := trod_array5 el_under u64_cells el_cells hd1
  obtain ⟨i0, e0, rfl, _⟩ := DataW.trod_int u64_u h0
  obtain ⟨i1, e1, rfl, _⟩ := DataW.trod_int u64_u h1
  obtain ⟨i2, e2, rfl, _⟩ := DataW.trod_int u64_u h2
  obtain ⟨i3, e3, rfl, _⟩ := DataW.trod_int u64_u h3
  obtain ⟨i4, e4, rfl, _⟩ := DataW.trod_int u64_u h4
  obtain ⟨j0, l0, rfl, _⟩ := DataW.trod_int u64_u k0
  obtain ⟨j1, l1, rfl, _⟩ := DataW.trod_int u64_u k1
  obtain ⟨j2, l2, rfl, _⟩ := DataW.trod_int u64_u k2
  obtain ⟨j3, l3, rfl, _⟩ := DataW.trod_int u64_u k3
  obtain ⟨j4, l4, rfl, _⟩ := DataW.trod_int u64_u k4
  simp [Rows.laid_buttress_edwards_curve] at hx
  simp [Rows.laid_buttress_edwards_twice] at hz
  simp at e0 e1 e2 e3 e4 l0 l1 l2 l3 l4
  obtain ⟨⟨rfl, rfl, rfl, rfl, rfl⟩, _⟩ := hx
  obtain ⟨⟨rfl, rfl, rfl, rfl, rfl⟩, _⟩ := hz
  subst e0 e1 e2 e3 e4 l0 l1 l2 l3 l4
  have c0 := fun i => World.var?_cell hg0 hv0 i
  have c1 := fun i => World.var?_cell hg1 hv1 i
  obtain ⟨q0⟩ := cs0
  obtain ⟨q1⟩ := cs1
  simp only at ha hb
  subst ha hb
  refine ⟨?_, fun i _ => c0 i, fun i _ => c1 i⟩
  have := c1 0
  rcases Nat.lt_or_ge 1 W.heap.size with h | h
  · exact h
  simp only [World.cell?, Array.getElem?_eq_none h] at this
  cases this
end Go.Proofs.YtpaldgajkhmhbaaDoor

namespace Go.Proofs.YtpaldgajkhmhbaaDoor
open Go.ChangeShapes Go.WideShapes Go.ChangeAt Go.WideMaps Go.WideElems Go.RowKit
set_option maxRecDepth 100000 in
theorem edwardsNumbers_lifted (os : Os) (started : os.Started) (H : Type) (enc : TypeId × Value → H) :
    ReturnsInHanded {} Tryd.checked os 9 .any (fun w args => (Rows.edwardsNumbersSpec.pre enc Tryd.prog Tryd.f9 [] false w args ∧ laidMetH Tryd.prog laidE w) ∧ sizedMet enc Tryd.prog Tryd.f9 (OpenSpec.ofChange Rows.edwardsNumbersSpec) false w args)
      (Rows.edwardsNumbersSpec.post enc Tryd.prog Tryd.f9 false true false false) := by
  refine returnsInHanded_of_change_and (C := Tryd.checked) (X := fun w _ => laidMetH Tryd.prog laidE w) (fun _ _ _ hh h => h.of_heap hh) own_ started (by kernel_rfl) Tryd.func9
    (ChangeSpec.witness_shaped (enc := enc) (C := Tryd.checked) (os := os) (X := fun w _ => laidMetH Tryd.prog laidE w) false (World.doorLaid Tryd.prog 400 os) #[] 8 rfl (World.shaped_of_RefB (by kernel_rfl) (by kernel_rfl)) (by kernel_rfl) (by kernel_rfl) (by kernel_rfl) (door_met os _)) ?_
  intro W base args ds gs before hval0 hW _ _ hL _
  have hW' := hW
  obtain ⟨p, q, hA0, hV, rfl, hfz, hnd⟩ := hW
  have hA : DataW.TrodAll enc Tryd.prog W 0 (fun _ => true) true Tryd.f9.params.toList args.toList ds p := hA0
  rw [Tryd.params9] at hA
  obtain ⟨rfl, rfl, rfl⟩ := trodAll_none hA
  obtain ⟨rfl, rfl⟩ := trodVars_none hV
  have hCv := of_laid hL
  refine (numbers4_c W hCv).mono fun e W' ⟨he, hb⟩ => ?_
  subst he
  exact ⟨_, rfl, post_of_below (pa := []) (pv := []) hW' (fun _ _ _ => trodAll_mk1 (shut_bool bool_under true)) (fun sp _ => rfl) (fun _ _ => rfl) rfl hb
    (ok_one (by kernel_rfl) rfl (okWide_bool_mk bool_under true))⟩
theorem edwardsNumbers_row : Rows.EdwardsNumbersSaid :=
  OpenClaim.holds_of_wide 9 Tryd.f9 rfl rfl rfl rfl rfl rfl rfl ⟨rfl, rfl, rfl, rfl, rfl⟩ rfl rfl rfl rfl rfl (by kernel_rfl) Tryd.func9 (by kernel_rfl)
    (of_decide_eq_true (by kernel_rfl)) (by unfold Func.isWrapper; first | (rw [if_pos (by decide +kernel)]; kernel_rfl) | (rw [if_neg (by decide +kernel)]; exact ⟨rfl, rfl⟩))
    (fun os started H enc _ => edwardsNumbers_lifted os started H enc)
theorem edwardsNumbers_holds : Rows.EdwardsNumbersCardSaid :=
  Claim7.holds_tied_plain_at .later [] [.data, .data] true (true, "6e129b5b755843fca1c9938d877822f84d8e150055241bfa7f0a4cfcf7dc7d77") false
    edwardsNumbers_row (fun _ h => by cases h) (by kernel_rfl) (fun _ h => by cases h) edwardsNumbers_row_tie rfl ⟨rfl, rfl⟩ (by kernel_rfl) rfl
    (fun f fn hf hfn => by
      obtain rfl : f = 9 := Option.some.inj ((show Tryd.prog.funcNamed "buttress/buttresslaw04.EdwardsNumbers" = some 9 by kernel_rfl).symm.trans hf) |>.symm
      obtain rfl : fn = Tryd.f9 := (Option.some.inj (Tryd.func9.symm.trans hfn)).symm
      exact ⟨by kernel_rfl, fun j t ht => by
        rw [Tryd.params9] at ht
        simp at ht⟩)
    (by kernel_rfl)
end Go.Proofs.YtpaldgajkhmhbaaDoor
