/- LentBytes and KeptBytes of any slice of bytes. The walk of the reference's Read. The walk of the law EdwardsGets. EdwardsGets answers true at every input, and its argument reads as it did; its two package variables are tied to the program's text. -/
import Derived.Test.YtpaldgajkhmhbaaDoorKd
import Derived.Test.YtpaldgajkhmhbaaDoorZd
import Derived.Test.YtpaldgajkhmhbaaDoorWa
import Derived.Test.YtpaldgajkhmhbaaDoorZe
namespace Go.Proofs.YtpaldgajkhmhbaaDoor
open Go.RowKit
theorem kdrewN {B : Nat} {a w : World} (h : Below B a w) (n : Nat) : Below B a (w.drewN n) := h.trans ⟨rfl, rfl, rfl, Nat.le_refl _, fun _ _ => rfl⟩
set_option maxRecDepth 20000 in
set_option maxRecDepth 20000 in
set_option maxHeartbeats 2000000 in
theorem keptBytes_s (g0 g o n c : Nat) (b : Nat → Int) (hn : n ≤ 1000000) (w : World) (hR : RowB w g0 (n + 12) (n + 12) (lentF n b)) (hg : g < w.heap.size) (hc : ∀ j, j < n → w.cell? ⟨g, o + j, none⟩ = some (.int .u8 (b j))) :
    Calls Tryd.prog 15 #[.slice (some ⟨g0, 0, none⟩) n (n + 12), .slice (some ⟨g, o, none⟩) n c] w fun e w' => e = .returned (.bool true) ∧ Below w.heap.size w w' := by
  have hl : ∀ j, j < n → lentF n b j = b j := fun j hj => by unfold lentF; rw [if_pos hj]
  have hm : ∀ k : Nat, lentF n b (n + k) = mb 1 k := fun k => by unfold lentF; rw [if_neg (by omega), Nat.add_sub_cancel_left]
  generalize lentF n b = L at *
  have hcR := hR.cell
  replace hl := Lib.hid hl
  replace hm := Lib.hid hm
  replace hc := Lib.hid hc
  replace hcR := Lib.hid hcR
  have hRlt := hR.lt
  clear hR
  have hn0 : (0 : Int) ≤ (n : Int) := by omega
  have hn1 : (n : Int) ≤ 1000000 := by omega
  go_enter Tryd.func15, Tryd.ntmps15
  go_wp2
  go_loopw [6] (fun i wr => ∃ k : Nat, k ≤ n + 12 ∧ i = .int .i64 k ∧ Below w.heap.size w wr) (fun i _ => (n + 12 - intOf i).toNat)
  case atStart => exact ⟨0, by omega, rfl, Below.refl _ _⟩
  case round =>
    obtain ⟨k, hk, hi', hb⟩ := hrel
    subst hi'
    have hk0 : (0 : Int) ≤ (k : Int) := by omega
    by_cases hend : k = n + 12
    · have hk1 : (k : Int) = (n : Int) + 12 := by omega
      subst hend
      go_wp2
      go_returns
      exact ⟨rfl, hb⟩
    · have hk1 : (k : Int) < (n : Int) + 12 := by omega
      have cR := (hb.cell (p := ⟨g0, k, none⟩) hRlt).trans (hcR.out k (by omega))
      by_cases hkn : k < n
      · have hkn1 : (k : Int) < (n : Int) := by omega
        have hkn2 : decide ((k : Int) < (n : Int)) = true := decide_eq_true hkn1
        have hkn3 : decide (n ≤ k) = false := decide_eq_false (by omega)
        have cc := (hb.cell (p := ⟨g, o + k, none⟩) hg).trans (hc.out k hkn)
        rw [hl.out k hkn] at cR
        have hx : (b k == b k) = true := beq_self_eq_true _
        clear hk hend
        go_wp2
        go_quiet (fail)
        go_wp2
        exact ⟨⟨k + 1, by omega, by rw [Int.natCast_add]; rfl, hb.trans (kdrewN (Below.refl _ _) _)⟩, by simp [intOf]; omega⟩
      · have hkn1 : (n : Int) ≤ (k : Int) := by omega
        obtain ⟨i, hi⟩ : ∃ i, k = n + i := ⟨k - n, by omega⟩
        have hi1 : (k : Int) - (n : Int) = (i : Int) := by omega
        have hi2 : (i : Int) < 12 := by omega
        have hi3 : (0 : Int) ≤ (i : Int) := by omega
        have hi4 : i < 12 := by omega
        have hkn2 : decide (k < n) = false := decide_eq_false (by omega)
        have hkn3 : decide (n ≤ k) = true := decide_eq_true (by omega)
        have hmk := hm.out i
        rw [← hi] at hmk
        rw [hmk] at cR
        have hmc : ∀ q, Calls Tryd.prog 55 #[.int .i64 1, .int .i64 i] (wr.drewN q) fun e w'' => e = .returned (.int .u8 (mb 1 i)) ∧ ∃ m, w'' = wr.drewN m := fun q => (markByte_c 1 i (by omega) (by omega) _).mono fun _ _ h => ⟨h.1, q, h.2.symm⟩
        have hx : (mb 1 i == mb 1 i) = true := beq_self_eq_true _
        replace hmc := Lib.hid hmc
        clear hk hend hi hmk
        generalize mb 1 (i : Int) = x at *
        go_wp2
        go_quiet (first | (exact hmc.out _))
        go_wp2
        exact ⟨⟨k + 1, by omega, by rw [Int.natCast_add]; rfl, hb.trans (kdrewN (Below.refl _ _) _)⟩, by simp [intOf]; omega⟩
set_option maxRecDepth 20000 in
set_option maxRecDepth 20000 in
set_option maxHeartbeats 2000000 in
theorem keptBytes_0 (g0 : Nat) (b : Nat → Int) (w : World) (hR : RowB w g0 12 12 (lentF 0 b)) :
    Calls Tryd.prog 15 #[.slice (some ⟨g0, 0, none⟩) 0 12, .slice none 0 0] w fun e w' => e = .returned (.bool true) ∧ Below w.heap.size w w' := by
  have hm : ∀ k : Nat, lentF 0 b k = mb 1 k := fun k => by unfold lentF; rw [if_neg (by omega), Nat.sub_zero]
  generalize lentF 0 b = L at *
  have hcR := hR.cell
  replace hm := Lib.hid hm
  replace hcR := Lib.hid hcR
  have hRlt := hR.lt
  clear hR
  go_enter Tryd.func15, Tryd.ntmps15
  go_wp2
  go_loopw [6] (fun i wr => ∃ k : Nat, k ≤ 12 ∧ i = .int .i64 k ∧ Below w.heap.size w wr) (fun i _ => (12 - intOf i).toNat)
  case atStart => exact ⟨0, by omega, rfl, Below.refl _ _⟩
  case round =>
    obtain ⟨k, hk, hi', hb⟩ := hrel
    subst hi'
    have hk0 : (0 : Int) ≤ (k : Int) := by omega
    by_cases hend : k = 12
    · have hk1 : (k : Int) = 12 := by omega
      subst hend
      go_wp2
      go_returns
      exact ⟨rfl, hb⟩
    · have hk1 : (k : Int) < 12 := by omega
      have hk2 : k < 12 := by omega
      have cR := (hb.cell (p := ⟨g0, k, none⟩) hRlt).trans (hcR.out k (by omega))
      rw [hm.out k] at cR
      have hmc : ∀ q, Calls Tryd.prog 55 #[.int .i64 1, .int .i64 k] (wr.drewN q) fun e w'' => e = .returned (.int .u8 (mb 1 k)) ∧ ∃ m, w'' = wr.drewN m := fun q => (markByte_c 1 k (by omega) (by omega) _).mono fun _ _ h => ⟨h.1, q, h.2.symm⟩
      have hx : (mb 1 k == mb 1 k) = true := beq_self_eq_true _
      replace hmc := Lib.hid hmc
      have hkn2 : decide ((k : Int) < 0) = false := decide_eq_false (by omega)
      have hkn3 : decide ((0 : Int) ≤ (k : Int)) = true := decide_eq_true hk0
      clear hk hend
      generalize mb 1 (k : Int) = x at *
      go_wp2
      go_quiet (first | (exact hmc.out _))
      go_wp2
      exact ⟨⟨k + 1, by omega, by rw [Int.natCast_add]; rfl, hb.trans (kdrewN (Below.refl _ _) _)⟩, by simp [intOf]; omega⟩
set_option maxRecDepth 20000 in
set_option maxRecDepth 20000 in
set_option maxHeartbeats 2000000 in
theorem lentBytes_e (ad : Addr) (n : Nat) (b : Nat → Int) (hn : n = 0) (w : World) :
    Calls Tryd.prog 12 #[.slice (some ad) 0 0] w (PostLent n b w) := by
  have hfin : ∀ w', RowB w' w.heap.size (n + 12) (n + 12) (lentF n b) → Below w.heap.size w w' → PostLent n b w (.returned (.slice (some ⟨w.heap.size, 0, none⟩) n (n + 12))) w' := fun w' h1 h2 => ⟨_, rfl, Nat.le_refl _, h1, h2⟩
  have hl : ∀ j, j < n → lentF n b j = b j := fun j hj => by unfold lentF; rw [if_pos hj]
  have hm : ∀ k : Nat, lentF n b (n + k) = mb 1 k := fun k => by unfold lentF; rw [if_neg (by omega), Nat.add_sub_cancel_left]
  generalize lentF n b = L at *
  subst hn
  obtain ⟨i0, hi, hz0, hz1, hz2⟩ := info_parts u8_infoK
  replace hfin := Lib.hid hfin
  replace hl := Lib.hid hl
  replace hm : ∀ k : Nat, L k = mb 1 k := fun k => by have := hm k; rwa [Nat.zero_add] at this
  replace hm := Lib.hid hm
  replace hz1 := Lib.hid hz1
  replace hz2 := Lib.hid hz2
  replace hz0 := Lib.hid hz0
  replace hi := Lib.hid hi
  go_enter Tryd.func12, Tryd.ntmps12
  go_wp2_with (first
    | (refine wpList_make_own _ rfl _ _ 22 rfl w.heap.size 5 i0 (.int .u8 0) 1 bs_underK hi.out hz0.out hz1.out .i64 .i64 _ 12 rfl rfl (by omega) (by rw [hz2.out]; omega) (by unfold maxLen; omega) (Nat.le_refl _) ?_; intro w1 hO1 hgr1; have hR1 : RowB w1 w.heap.size 0 12 (fun _ => 0) := rowB_of hO1; have hb1 : Below w.heap.size w w1 := (Below.refl _ _).grown hgr1 (Nat.le_refl _) (fun k hk => by cases hk); clear hgr1 hO1)
    | (refine wpList_app rfl rfl rfl hR1 rfl L (fun i hi => absurd hi (by omega)) (fun j hj => absurd hj (by omega)) (by omega) ?_; intro g2 c2 w2 hR2 hgr2 hcase2; have hg2 : g2 = w.heap.size ∧ c2 = 12 := (by rcases hcase2 with h | h; exact ⟨h.1, h.2.1⟩; omega); obtain ⟨hg2a, hg2b⟩ := hg2; subst hg2a hg2b; have hb2 : Below w.heap.size w w2 := hb1.grown hgr2 hb1.size (fun k hk => by injection hk; omega); clear hgr2 hcase2 hR1 hb1))
  go_loopw [3, 4] (fun v i wr => ∃ k : Nat, k ≤ 12 ∧ i = .int .i64 k ∧ v = .slice (some ⟨w.heap.size, 0, none⟩) k 12 ∧ RowB wr w.heap.size k 12 L ∧ Below w.heap.size w wr) (fun _ i _ => (12 - intOf i).toNat)
  case atStart => exact ⟨0, by decide, rfl, rfl, hR2, hb2⟩
  case round =>
    clear hR2 hb2
    obtain ⟨k, hk, hi', hv, hR, hb⟩ := hrel
    subst hi' hv
    by_cases h12 : k = 12
    · subst h12
      have hP := Lib.hid (hfin.out wr hR hb)
      clear hk hR hb
      go_wp2
      go_returns
      exact hP.out
    · have hk0 : (0 : Int) ≤ (k : Int) := by omega
      have hk1 : (k : Int) < 12 := by omega
      have hmk := hm.out k
      clear hk h12
      go_wp2_with fail
      refine (markByte_c 1 k (by omega) (by omega) _).mono ?_
      rintro e w3 ⟨rfl, rfl⟩
      have hRa : RowB (wr.alloc (Obj.cells #[.int .u8 (mb 1 k)] 5)) w.heap.size k 12 L := hR.below ((Below.refl _ _).alloc (Nat.le_refl _) _)
      have hba : Below w.heap.size w (wr.alloc (Obj.cells #[.int .u8 (mb 1 k)] 5)) := hb.alloc hb.size _
      have hca : ∀ j, j < 1 → (wr.alloc (Obj.cells #[.int .u8 (mb 1 k)] 5)).cell? ((⟨wr.heap.size, 0, none⟩ : Addr).add j) = some (.int .u8 (L (k + j))) := fun j hj => by
        obtain rfl : j = 0 := by omega
        rw [add_o, show k + 0 = k from rfl, hmk]
        exact (Blk.new wr _ _).cell 0
      replace hmk := Lib.hid hmk
      generalize mb 1 k = x at *
      clear hR hb
      go_wp2_with (refine wpList_app rfl rfl rfl hRa rfl L (fun i hi => rfl) hca (by omega) ?_; intro g2 c2 w4 hR4 hgr4 hcase4; have hg4 : g2 = w.heap.size ∧ c2 = 12 := (by rcases hcase4 with h | h; exact ⟨h.1, h.2.1⟩; omega); obtain ⟨hg4a, hg4b⟩ := hg4; subst hg4a hg4b; have hb4 : Below w.heap.size w w4 := hba.grown hgr4 hba.size (fun k hk => by injection hk; omega); clear hgr4 hcase4 hca hRa hba)
      exact ⟨⟨k + 1, by omega, rfl, rfl, hR4, hb4⟩, by simp [intOf]; omega⟩

set_option maxRecDepth 20000 in
set_option maxRecDepth 20000 in
set_option maxHeartbeats 2000000 in
theorem keptBytes_e (ad : Addr) (g0 : Nat) (b : Nat → Int) (w : World) (hR : RowB w g0 12 12 (lentF 0 b)) :
    Calls Tryd.prog 15 #[.slice (some ⟨g0, 0, none⟩) 0 12, .slice (some ad) 0 0] w fun e w' => e = .returned (.bool true) ∧ Below w.heap.size w w' := by
  have hm : ∀ k : Nat, lentF 0 b k = mb 1 k := fun k => by unfold lentF; rw [if_neg (by omega), Nat.sub_zero]
  generalize lentF 0 b = L at *
  have hcR := hR.cell
  replace hm := Lib.hid hm
  replace hcR := Lib.hid hcR
  have hRlt := hR.lt
  clear hR
  go_enter Tryd.func15, Tryd.ntmps15
  go_wp2
  go_loopw [6] (fun i wr => ∃ k : Nat, k ≤ 12 ∧ i = .int .i64 k ∧ Below w.heap.size w wr) (fun i _ => (12 - intOf i).toNat)
  case atStart => exact ⟨0, by omega, rfl, Below.refl _ _⟩
  case round =>
    obtain ⟨k, hk, hi', hb⟩ := hrel
    subst hi'
    have hk0 : (0 : Int) ≤ (k : Int) := by omega
    by_cases hend : k = 12
    · have hk1 : (k : Int) = 12 := by omega
      subst hend
      go_wp2
      go_returns
      exact ⟨rfl, hb⟩
    · have hk1 : (k : Int) < 12 := by omega
      have hk2 : k < 12 := by omega
      have cR := (hb.cell (p := ⟨g0, k, none⟩) hRlt).trans (hcR.out k (by omega))
      rw [hm.out k] at cR
      have hmc : ∀ q, Calls Tryd.prog 55 #[.int .i64 1, .int .i64 k] (wr.drewN q) fun e w'' => e = .returned (.int .u8 (mb 1 k)) ∧ ∃ m, w'' = wr.drewN m := fun q => (markByte_c 1 k (by omega) (by omega) _).mono fun _ _ h => ⟨h.1, q, h.2.symm⟩
      have hx : (mb 1 k == mb 1 k) = true := beq_self_eq_true _
      replace hmc := Lib.hid hmc
      have hkn2 : decide ((k : Int) < 0) = false := decide_eq_false (by omega)
      have hkn3 : decide ((0 : Int) ≤ (k : Int)) = true := decide_eq_true hk0
      clear hk hend
      generalize mb 1 (k : Int) = x at *
      go_wp2
      go_quiet (first | (exact hmc.out _))
      go_wp2
      exact ⟨⟨k + 1, by omega, by rw [Int.natCast_add]; rfl, hb.trans (kdrewN (Below.refl _ _) _)⟩, by simp [intOf]; omega⟩
/-- a slice of n bytes: nil, empty, or in a block of cells -/
def SAt (w : World) (p : Option Addr) (n c : Nat) (b : Nat → Int) : Prop := (p = none ∧ n = 0 ∧ c = 0) ∨ (∃ ad, p = some ad ∧ n = 0 ∧ c = 0) ∨ (∃ g o, p = some ⟨g, o, none⟩ ∧ g < w.heap.size ∧ ∀ j, j < n → w.cell? ⟨g, o + j, none⟩ = some (.int .u8 (b j)))
theorem SAt.below {w w' : World} {p : Option Addr} {n c : Nat} {b : Nat → Int} (h : SAt w p n c b) (hb : Below w.heap.size w w') : SAt w' p n c b := by
  rcases h with h | h | ⟨g, o, e, hg, hc⟩
  · exact .inl h
  · exact .inr (.inl h)
  · exact .inr (.inr ⟨g, o, e, Nat.lt_of_lt_of_le hg hb.size, fun j hj => (hb.cell (p := ⟨g, o + j, none⟩) hg).trans (hc j hj)⟩)
theorem SAt.bat {w : World} {p : Option Addr} {n c : Nat} {b : Nat → Int} (h : SAt w p n c b) : BAt w p n b := by
  rcases h with ⟨_, h, _⟩ | ⟨_, _, h, _⟩ | ⟨g, o, e, hg, hc⟩
  · exact fun hn => absurd hn (by omega)
  · exact fun hn => absurd hn (by omega)
  · exact fun _ => ⟨g, o, e, hg, hc⟩
theorem lentB_c (p : Option Addr) (n c : Nat) (b : Nat → Int) (hn : n ≤ 1000000) (w : World) (h : SAt w p n c b) : Calls Tryd.prog 12 #[.slice p n c] w (PostLent n b w) := by
  rcases h with ⟨rfl, rfl, rfl⟩ | ⟨ad, rfl, rfl, rfl⟩ | ⟨g, o, rfl, hg, hc⟩
  · exact lentBytes_0 0 b rfl w
  · exact lentBytes_e ad 0 b rfl w
  · exact lentBytes_s g o n c b hn w hg hc
theorem keptB_c (g0 : Nat) (p : Option Addr) (n c : Nat) (b : Nat → Int) (hn : n ≤ 1000000) (w : World) (h : SAt w p n c b) (hR : RowB w g0 (n + 12) (n + 12) (lentF n b)) : Calls Tryd.prog 15 #[.slice (some ⟨g0, 0, none⟩) n (n + 12), .slice p n c] w fun e w' => e = .returned (.bool true) ∧ Below w.heap.size w w' := by
  rcases h with ⟨rfl, rfl, rfl⟩ | ⟨ad, rfl, rfl, rfl⟩ | ⟨g, o, rfl, hg, hc⟩
  · exact keptBytes_0 g0 b w hR
  · exact keptBytes_e ad g0 b w hR
  · exact keptBytes_s g0 g o n c b hn w hR hg hc
end Go.Proofs.YtpaldgajkhmhbaaDoor

namespace Go.Proofs.YtpaldgajkhmhbaaDoor
open Go.RowKit
theorem stP {ops : Array Oper} {rest : List Oper} {o : Oper} {a : Act} {w : World} {Q : Exit → Act → World → Prop} (hgd : o.guard = none) {x y : Operand} (ho : o.op = .store 35 x y) {g : Nat} {cs old : Array Value} (hx : a.eval x = .pointer (some ⟨g, 0, none⟩)) (hy : a.eval y = .agg cs) (hg : Blk w g 35 old) (hs : old.size = 48) (hc : cs.size = 48) (hone : cs.all (·.oneCell') = true)
    (h : ∀ w', Blk w' g 35 cs → w.grownBy w' (some g) → w'.heap.size = w.heap.size → wpList Tryd.prog ops Q rest (a.put o.dst undef) w') : wpList Tryd.prog ops Q (o :: rest) a w :=
  wpList_store_blk hgd 35 x y ho g 35 old cs hx hy hg (by rw [hs, hc]) (by rw [hc]; exact rp_size) hone h
theorem retT2 {fn : Func} {p q : Tmp} {g : Nat} {tmps : Array Value} {D : List Deferred} {w : World} {R : Ending → World → Prop} {cs : Array Value} {v : Value} (h : fn.results = #[.cell p 35, .tmp q]) (hp : tmps.getD p undef = .pointer (some ⟨g, 0, none⟩)) (hq : tmps.getD q undef = v) (hg : Blk w g 35 cs) (hs : cs.size = 48) (hD : D = []) (hR : R (.returned (.tuple #[.agg cs, v])) w) : bodyPost Tryd.prog fn R .ret ⟨tmps, D⟩ w := by
  obtain ⟨d, hd, hs2⟩ := rp_under
  have hp' : tmps[p]?.getD undef = .pointer (some ⟨g, 0, none⟩) := by simpa using hp
  have hq' : tmps[q]?.getD undef = v := by simpa using hq
  refine bodyPost_ret (v := .tuple #[.agg cs, v]) ?_ hD hR
  simp [results, h, hp', hq', asAddr, run_loadVar_row w g 35 35 cs (0, 0) d hg hd (by revert hs2; cases d <;> exact fun h => h) (by rw [hs]; exact rp_size)]
/-- what Read answers: a pair as cells, and whether it is one -/
def PostRd (v : Bool) (F G H : Nat → Int) (w : World) (e : Ending) (w' : World) : Prop := (∃ cs, e = .returned (.tuple #[.agg cs, .bool v]) ∧ cs.size = 48 ∧ cs.all (·.oneCell') = true ∧ (v = true → cs = tcf F G H)) ∧ Below w.heap.size w w'
def rr10L (YY : Nat → Int) (U : Nat → Int) (XR : Nat → Int) (N1 : Nat → Int) (D : Nat → Int) (DY : Nat → Int) (VV : Nat → Int) (BB : Bool) (B0 : Nat) : List (Value → World → Prop) := [
  Eq1 (.agg (av YY)),
  Eq1 (.agg (av N1)),
  Eq1 (.agg (av U)),
  Eq1 (.agg (av D)),
  Eq1 (.agg (av YY)),
  Eq1 (.agg (av DY)),
  Eq1 (.agg (av N1)),
  Eq1 (.agg (av VV)),
  Eq1 (.tuple #[.agg (av XR), .bool BB]),
  Eq1 (.tuple #[.agg (av XR), .bool BB]),
  Eq1 (.agg (av XR)),
  Eq1 (.bool BB),
  NewB B0 33 #[.int .u64 0, .int .u64 0, .int .u64 0, .int .u64 0, .int .u64 0, .int .u64 0, .int .u64 0, .int .u64 0, .int .u64 0, .int .u64 0, .int .u64 0, .int .u64 0, .int .u64 0, .int .u64 0, .int .u64 0, .int .u64 0]]
theorem rr10S (YY : Nat → Int) (U : Nat → Int) (XR : Nat → Int) (N1 : Nat → Int) (D : Nat → Int) (DY : Nat → Int) (VV : Nat → Int) (BB : Bool) (B0 : Nat) : ∀ j x' q q', (rr10L YY U XR N1 D DY VV BB B0).getD j (fun _ _ => True) x' q → Below q.heap.size q q' → (rr10L YY U XR N1 D DY VV BB B0).getD j (fun _ _ => True) x' q' := by
  refine sta_all _ ?_
  simp only [rr10L, List.mem_cons, forall_eq_or_imp, List.not_mem_nil, false_implies, implies_true, and_true]
  exact ⟨sta_eq _, sta_eq _, sta_eq _, sta_eq _, sta_eq _, sta_eq _, sta_eq _, sta_eq _, sta_eq _, sta_eq _, sta_eq _, sta_eq _, sta_new _ _ _⟩
theorem rr10O (YY : Nat → Int) (U : Nat → Int) (XR : Nat → Int) (N1 : Nat → Int) (D : Nat → Int) (DY : Nat → Int) (VV : Nat → Int) (BB : Bool) (B0 : Nat) : ∀ j x' q, (fun j => j == 12) j = true → (rr10L YY U XR N1 D DY VV BB B0).getD j (fun _ _ => True) x' q → ∀ g, x' = .pointer (some ⟨g, 0, none⟩) → g < q.heap.size := by
  intro j x' q hj hv g e
  have hj' : j = 12 := by simpa using hj
  subst hj'
  all_goals exact new_lt hv e
def rr13L (XR : Nat → Int) (N0 : Nat → Int) (ZB : Bool) : List (Value → World → Prop) := [
  Eq1 (.agg (av XR)),
  Eq1 (.agg (av N0)),
  Eq1 (.bool ZB),
  Eq1 (.bool ZB)]
theorem rr13S (XR : Nat → Int) (N0 : Nat → Int) (ZB : Bool) : ∀ j x' q q', (rr13L XR N0 ZB).getD j (fun _ _ => True) x' q → Below q.heap.size q q' → (rr13L XR N0 ZB).getD j (fun _ _ => True) x' q' := by
  refine sta_all _ ?_
  simp only [rr13L, List.mem_cons, forall_eq_or_imp, List.not_mem_nil, false_implies, implies_true, and_true]
  exact ⟨sta_eq _, sta_eq _, sta_eq _, sta_eq _⟩
def rrF018L (YF : Nat → Int) (XR : Nat → Int) (N1 : Nat → Int) : List (Value → World → Prop) := [
  Eq1 (.agg (av XR)),
  Eq1 (.agg (av YF)),
  Eq1 (.agg (av N1)),
  Eq1 (.agg (tcf XR YF N1))]
theorem rrF018S (YF : Nat → Int) (XR : Nat → Int) (N1 : Nat → Int) : ∀ j x' q q', (rrF018L YF XR N1).getD j (fun _ _ => True) x' q → Below q.heap.size q q' → (rrF018L YF XR N1).getD j (fun _ _ => True) x' q' := by
  refine sta_all _ ?_
  simp only [rrF018L, List.mem_cons, forall_eq_or_imp, List.not_mem_nil, false_implies, implies_true, and_true]
  exact ⟨sta_eq _, sta_eq _, sta_eq _, sta_eq _⟩
def rrF118L (YF : Nat → Int) (XR : Nat → Int) (N1 : Nat → Int) : List (Value → World → Prop) := [
  Eq1 (.agg (av XR)),
  Eq1 (.agg (av YF)),
  Eq1 (.agg (av N1)),
  Eq1 (.agg (tcf XR YF N1))]
theorem rrF118S (YF : Nat → Int) (XR : Nat → Int) (N1 : Nat → Int) : ∀ j x' q q', (rrF118L YF XR N1).getD j (fun _ _ => True) x' q → Below q.heap.size q q' → (rrF118L YF XR N1).getD j (fun _ _ => True) x' q' := by
  refine sta_all _ ?_
  simp only [rrF118L, List.mem_cons, forall_eq_or_imp, List.not_mem_nil, false_implies, implies_true, and_true]
  exact ⟨sta_eq _, sta_eq _, sta_eq _, sta_eq _⟩
def rrT17L (XR : Nat → Int) (XN : Nat → Int) (N0 : Nat → Int) : List (Value → World → Prop) := [
  Eq1 (.agg (av N0)),
  Eq1 (.agg (av XR)),
  Eq1 (.agg (av XN))]
theorem rrT17S (XR : Nat → Int) (XN : Nat → Int) (N0 : Nat → Int) : ∀ j x' q q', (rrT17L XR XN N0).getD j (fun _ _ => True) x' q → Below q.heap.size q q' → (rrT17L XR XN N0).getD j (fun _ _ => True) x' q' := by
  refine sta_all _ ?_
  simp only [rrT17L, List.mem_cons, forall_eq_or_imp, List.not_mem_nil, false_implies, implies_true, and_true]
  exact ⟨sta_eq _, sta_eq _, sta_eq _⟩
def rrT18L (YF : Nat → Int) (XN : Nat → Int) (N1 : Nat → Int) : List (Value → World → Prop) := [
  Eq1 (.agg (av XN)),
  Eq1 (.agg (av YF)),
  Eq1 (.agg (av N1)),
  Eq1 (.agg (tcf XN YF N1))]
theorem rrT18S (YF : Nat → Int) (XN : Nat → Int) (N1 : Nat → Int) : ∀ j x' q q', (rrT18L YF XN N1).getD j (fun _ _ => True) x' q → Below q.heap.size q q' → (rrT18L YF XN N1).getD j (fun _ _ => True) x' q' := by
  refine sta_all _ ?_
  simp only [rrT18L, List.mem_cons, forall_eq_or_imp, List.not_mem_nil, false_implies, implies_true, and_true]
  exact ⟨sta_eq _, sta_eq _, sta_eq _, sta_eq _⟩
set_option maxRecDepth 20000 in
set_option maxHeartbeats 8000000 in
theorem rRead_g {g o c : Nat} {b : Nat → Int} {YF : Nat → Int} {YY : Nat → Int} {U : Nat → Int} {XR : Nat → Int} {XN : Nat → Int} {N1 : Nat → Int} {D : Nat → Int} {DY : Nat → Int} {VV : Nat → Int} {N0 : Nat → Int} {BB : Bool} {ZB : Bool} {od : Bool} {ok : Bool} {XF : Nat → Int} (hr : ∀ j, 0 ≤ b j ∧ b j < 256) (w : World) (hg : g < w.heap.size) (hc : ∀ j, j < 32 → w.cell? ⟨g, o + j, none⟩ = some (.int .u8 (b j)))
    (hod : decide (128 ≤ b 31) = od) (hRd : ∀ (g c : Nat) (w : World), RowB w g 32 c (Fe.clr b) → Calls Tryd.prog 59 #[.slice (some ⟨g, 0, none⟩) 32 c] w (PostR2 YF ok w))
    (cyy : ∀ w, Calls Tryd.prog 60 #[.agg (av YF), .agg (av YF)] w (PostN YY w))
    (c1 : ∀ w, Calls Tryd.prog 63 #[.int .u64 1] w (PostN N1 w))
    (cu : ∀ w, Calls Tryd.prog 62 #[.agg (av YY), .agg (av N1)] w (PostN U w))
    (cd : ∀ w, Calls Tryd.prog 38 #[] w (PostN D w))
    (cdy : ∀ w, Calls Tryd.prog 60 #[.agg (av D), .agg (av YY)] w (PostN DY w))
    (cv : ∀ w, Calls Tryd.prog 64 #[.agg (av DY), .agg (av N1)] w (PostN VV w))
    (crt : ∀ w, Calls Tryd.prog 61 #[.agg (av U), .agg (av VV)] w (PostR2 XR BB w))
    (c0 : ∀ w, Calls Tryd.prog 63 #[.int .u64 0] w (PostN N0 w))
    (cng : ∀ w, Calls Tryd.prog 62 #[.agg (av N0), .agg (av XR)] w (PostN XN w))
    (q1 : eqN XR N0 = ZB)
    (hXF : (if od then XN else XR) = XF)
    : Calls Tryd.prog 14 #[.slice (some ⟨g, o, none⟩) 32 c] w (PostRd (ok && BB && !(od && ZB)) XF YF N1 w) := by
  replace cyy := Lib.hid cyy
  replace c1 := Lib.hid c1
  replace cu := Lib.hid cu
  replace cd := Lib.hid cd
  replace cdy := Lib.hid cdy
  replace cv := Lib.hid cv
  replace crt := Lib.hid crt
  replace c0 := Lib.hid c0
  replace cng := Lib.hid cng
  replace q1 := Lib.hid q1
  replace hXF := Lib.hid hXF
  replace hRd := Lib.hid hRd
  have hR0 : ∀ ob, RowB ((w.alloc ob).alloc (.cells #[] 5)) (w.heap.size + 1) 0 0 b := fun ob => ⟨#[], by have h := heap_alloc_new (w.alloc ob) (.cells #[] 5); rw [World.size_alloc] at h; exact h, Nat.le_refl _, Nat.zero_le _, rfl, rfl⟩
  have hcs : ∀ W : World, Below w.heap.size w W → ∀ j, j < 32 → W.cell? ((⟨g, o, none⟩ : Addr).add j) = some (.int .u8 (b (0 + j))) := fun W hb j hj => by
    rw [add_o, Nat.zero_add]
    exact (hb.cell (p := ⟨g, o + j, none⟩) hg).trans (hc j hj)
  replace hR0 := Lib.hid hR0
  replace hcs := Lib.hid hcs
  have hr31 := hr 31
  have hr0 := Lib.hid hr
  clear hc hg hr
  obtain ⟨B31, hB31⟩ : ∃ B31, B31 = b 31 := ⟨_, rfl⟩
  rw [← hB31] at hr31 hod
  have hq1 : (B31 / 128 == 1) = od := by
    rw [← hod]
    by_cases h : 128 ≤ B31
    · rw [decide_eq_true h]; simp; omega
    · rw [decide_eq_false h]; simp; omega
  replace hod := Lib.hid hod
  replace hB31 := Lib.hid hB31
  go_enter Tryd.func14, Tryd.ntmps14
  have hmk : True := trivial
  go_wp2_with (first | (at_builtin; clear hmk; refine wpList_app rfl rfl rfl (hR0.out _) rfl b (fun _ _ => rfl) (hcs.out _ (by go_grown)) (by omega) ?_; intro g2 c2 w2 hR hgr hcase; have hb0 : Below w.heap.size w w2 := Below.grown (by go_grown) hgr (by simp only [World.size_alloc]; omega) (fun k hk => by injection hk with hk; omega); obtain ⟨old, k2, so⟩ : ∃ old, Blk w2 w.heap.size 35 old ∧ old.size = 48 := ⟨_, ((Blk.new _ _ _).alloc _).grown hgr (fun hh => by injection hh with hh; omega), rfl⟩; have lo1 : w.heap.size ≤ g2 := (by rcases hcase with h | h <;> (try simp only [World.size_alloc] at h) <;> omega); have ne2 : g2 ≠ w.heap.size := (by rcases hcase with h | h <;> (try simp only [World.size_alloc] at h) <;> omega); clear hgr hcase hR0 hcs; obtain ⟨G2, hG2⟩ : ∃ G, G = w.heap.size := ⟨_, rfl⟩; rw [← hG2] at k2 ne2 ⊢; have loG2 : w.heap.size ≤ G2 := (by omega); clear hG2; have q31 := hR.cell 31 (by decide); rw [← hB31.out] at q31; have fz := fun i => hR.frozen i; have hRl := hR.lt; replace hR := Lib.hid hR; replace k2 := Lib.hid k2; replace hb0 := Lib.hid hb0))
  refine calls_at (fun W1 hW => ?_)
  have hR1 : RowB W1 g2 32 c2 (Fe.clr b) := by rw [hW]; exact (hR.out.set_ 31 (by decide) (B31 % 128)).congr (fun i hi => by unfold Fe.clr; rw [hB31.out])
  replace hb0 : Below w.heap.size w W1 := by rw [hW]; exact hb0.out.setCell (by show w.heap.size ≤ g2; exact lo1) _
  replace k2 : Blk W1 G2 35 old := by rw [hW]; exact k2.out.far (p := ⟨g2, 31, none⟩) ne2.symm _
  clear hW hR q31 fz hRl ne2 hB31
  refine (hRd.out g2 c2 W1 hR1).mono ?_
  rintro e w3 ⟨rfl, hb⟩
  replace k2 := k2.below hb
  replace hb0 := hb0.trans (hb.mono hb0.size)
  clear hb hRd hR1 hr31 hod
  obtain ⟨OD, hOD⟩ : ∃ OD, OD = B31 / 128 := ⟨_, rfl⟩
  rw [← hOD] at hq1 ⊢
  clear hOD
  have k2lt := k2.lt
  have LO := hb0.size
  cases ok
  · skip
    go_wp2_with (first | (refine stN (f := YF) (old := fun _ => 0) rfl rfl rfl rfl (Blk.new _ _ _) ?_; intro w4 k6 hgr hsz; replace k2 := (k2.alloc _).grown hgr (fun hh => by injection hh with hh; omega); replace hb0 := (hb0.alloc hb0.size _).grown hgr (Nat.le_trans hb0.size (by simp)) (fun k hk => by injection hk with hk; omega); clear hgr hsz) | (refine stP rfl rfl rfl rfl k2 so rfl (by kernel_rfl) ?_; intro w5 m2 hgr hsz))
    exact retT2 rfl rfl rfl m2 rfl rfl ⟨⟨_, rfl, rfl, by kernel_rfl, fun h => by simp at h⟩, hb0.grown hgr hb0.size (fun k hk => by injection hk with hk; omega)⟩
  · skip
    go_wp2_with (first | (refine stN (f := YF) (old := fun _ => 0) rfl rfl rfl rfl (Blk.new _ _ _) ?_; intro w4 k6 hgr hsz; replace k2 := (k2.alloc _).grown hgr (fun hh => by injection hh with hh; omega); replace hb0 := (hb0.alloc hb0.size _).grown hgr (Nat.le_trans hb0.size (by simp)) (fun k hk => by injection hk with hk; omega); clear hgr hsz) | (refine ldNw (by kernel_rfl) rfl rfl k6 ?_))
    have nG2_6 : G2 ≠ w3.heap.size := by omega
    obtain ⟨G6, hG6⟩ : ∃ G, G = w3.heap.size := ⟨_, rfl⟩
    rw [← hG6] at k6 LO nG2_6 ⊢
    have lo6 := LO
    clear hG6 LO k2lt
    refine (cyy.out _).mono ?_
    rintro e w6 ⟨rfl, hb⟩
    replace k2 := k2.below hb
    replace k6 := k6.below hb
    replace hb0 := hb0.trans (hb.mono hb0.size)
    clear hb
    have k2lt := k2.lt
    have k6lt := k6.lt
    have LO := hb0.size
    go_wp2_with (refine stN (f := YY) (old := fun _ => 0) rfl rfl rfl rfl (Blk.new _ _ _) ?_; intro w7 k8 hgr hsz; replace k2 := (k2.alloc _).grown hgr (fun hh => by injection hh with hh; omega); replace k6 := (k6.alloc _).grown hgr (fun hh => by injection hh with hh; omega); replace hb0 := (hb0.alloc hb0.size _).grown hgr (Nat.le_trans hb0.size (by simp)) (fun k hk => by injection hk with hk; omega); clear hgr hsz)
    obtain ⟨G8, hG8⟩ : ∃ G, G = w6.heap.size := ⟨_, rfl⟩
    rw [← hG8] at k8 ⊢
    clear hG8 LO k2lt k6lt
    dsimp only [Act.put]
    go_cut [9, 10] from 12 (fun p q wx => ∃ g9, p = .pointer (some ⟨g9, 0, none⟩) ∧ q = .bool BB ∧ w7.heap.size ≤ g9 ∧ Blk wx g9 33 (av XR) ∧ Below w7.heap.size w7 wx)
    case first =>
      refine wp_region_grow3 13 11 (fun k => Nat.beq k 9 || (Nat.ble 40 k && Nat.ble k 51)) _ [] (fun j x' q => (rr10L YY U XR N1 D DY VV BB w7.heap.size).getD j (fun _ _ => True) x' q) (fun j => j == 12) (fun f => #[_, _, .pointer (some ⟨G2, 0, none⟩), .bool false, _, _, .pointer (some ⟨G6, 0, none⟩), .bool true, .pointer (some ⟨G8, 0, none⟩), f 9, _, _, _, _, _, _, _, _, _, _, _, _, _, _, _, _, _, _, _, _, _, _, _, _, _, _, _, _, _, _, f 40, f 41, f 42, f 43, f 44, f 45, f 46, f 47, f 48, f 49, f 50, f 51, _, _, _, _, _, _, _, _, _, _, _, _, _, _, _, _, _, _, _, _, _]) (fun f => rfl) (by decide) (by kernel_rfl) (by kernel_rfl) (by kernel_rfl) (by kernel_rfl) (by kernel_rfl) (rr10S _ _ _ _ _ _ _ _ _) ?_ ?_ ?_
      · refine steps2_cons ?_ ?_
        · as_aux_lemma =>
          intro f w1 hb hd Q hK
          clear hd
          have hK := Lib.hid hK
          refine ldNw (by kernel_rfl) rfl rfl (k8.below hb) ?_
          refine wpList_nil ?_
          exact hK.out _ _ rfl (Below.refl _ _) (fun h => by cases h)
        refine steps2_cons ?_ ?_
        · as_aux_lemma =>
          intro f w1 hb hd Q hK
          clear hd
          have hK := Lib.hid hK
          go_wp2_with fail
          refine (c1.out _).mono ?_
          rintro e w2 ⟨rfl, hb2⟩
          go_wp2
          exact hK.out _ _ rfl hb2 (fun h => by cases h)
        refine steps2_cons ?_ ?_
        · as_aux_lemma =>
          intro f w1 hb hd Q hK
          have e41 : f 41 = .agg (av YY) := hd.1 rfl
          have e42 : f 42 = .agg (av N1) := hd.2.1 rfl
          clear hd
          simp only [e41, e42] at hK
          have hK := Lib.hid hK
          go_wp2_with fail
          refine (cu.out _).mono ?_
          rintro e w2 ⟨rfl, hb2⟩
          go_wp2
          exact hK.out _ _ rfl hb2 (fun h => by cases h)
        refine steps2_cons ?_ ?_
        · as_aux_lemma =>
          intro f w1 hb hd Q hK
          clear hd
          have hK := Lib.hid hK
          go_wp2_with fail
          refine (cd.out _).mono ?_
          rintro e w2 ⟨rfl, hb2⟩
          go_wp2
          exact hK.out _ _ rfl hb2 (fun h => by cases h)
        refine steps2_cons ?_ ?_
        · as_aux_lemma =>
          intro f w1 hb hd Q hK
          clear hd
          have hK := Lib.hid hK
          refine ldNw (by kernel_rfl) rfl rfl (k8.below hb) ?_
          refine wpList_nil ?_
          exact hK.out _ _ rfl (Below.refl _ _) (fun h => by cases h)
        refine steps2_cons ?_ ?_
        · as_aux_lemma =>
          intro f w1 hb hd Q hK
          have e44 : f 44 = .agg (av D) := hd.1 rfl
          have e45 : f 45 = .agg (av YY) := hd.2.1 rfl
          clear hd
          simp only [e44, e45] at hK
          have hK := Lib.hid hK
          go_wp2_with fail
          refine (cdy.out _).mono ?_
          rintro e w2 ⟨rfl, hb2⟩
          go_wp2
          exact hK.out _ _ rfl hb2 (fun h => by cases h)
        refine steps2_cons ?_ ?_
        · as_aux_lemma =>
          intro f w1 hb hd Q hK
          clear hd
          have hK := Lib.hid hK
          go_wp2_with fail
          refine (c1.out _).mono ?_
          rintro e w2 ⟨rfl, hb2⟩
          go_wp2
          exact hK.out _ _ rfl hb2 (fun h => by cases h)
        refine steps2_cons ?_ ?_
        · as_aux_lemma =>
          intro f w1 hb hd Q hK
          have e46 : f 46 = .agg (av DY) := hd.1 rfl
          have e47 : f 47 = .agg (av N1) := hd.2.1 rfl
          clear hd
          simp only [e46, e47] at hK
          have hK := Lib.hid hK
          go_wp2_with fail
          refine (cv.out _).mono ?_
          rintro e w2 ⟨rfl, hb2⟩
          go_wp2
          exact hK.out _ _ rfl hb2 (fun h => by cases h)
        refine steps2_cons ?_ ?_
        · as_aux_lemma =>
          intro f w1 hb hd Q hK
          have e43 : f 43 = .agg (av U) := hd.1 rfl
          have e48 : f 48 = .agg (av VV) := hd.2.1 rfl
          clear hd
          simp only [e43, e48] at hK
          have hK := Lib.hid hK
          go_wp2_with fail
          refine (crt.out _).mono ?_
          rintro e w2 ⟨rfl, hb2⟩
          go_wp2
          exact hK.out _ _ rfl hb2 (fun h => by cases h)
        refine steps2_cons ?_ ?_
        · as_aux_lemma =>
          intro f w1 hb hd Q hK
          have e49 : f 49 = .tuple #[.agg (av XR), .bool BB] := hd.1 rfl
          clear hd
          simp only [e49] at hK
          have hK := Lib.hid hK
          go_wp2
          exact hK.out _ _ rfl (Below.refl _ _) (fun h => by cases h)
        refine steps2_cons ?_ ?_
        · as_aux_lemma =>
          intro f w1 hb hd Q hK
          have e40 : f 40 = .tuple #[.agg (av XR), .bool BB] := hd.1 rfl
          clear hd
          simp only [e40] at hK
          have hK := Lib.hid hK
          go_wp2
          exact hK.out _ _ rfl (Below.refl _ _) (fun h => by cases h)
        refine steps2_cons ?_ ?_
        · as_aux_lemma =>
          intro f w1 hb hd Q hK
          have e40 : f 40 = .tuple #[.agg (av XR), .bool BB] := hd.1 rfl
          clear hd
          simp only [e40] at hK
          have hK := Lib.hid hK
          go_wp2
          exact hK.out _ _ rfl (Below.refl _ _) (fun h => by cases h)
        refine steps2_cons ?_ ?_
        · as_aux_lemma =>
          intro f w1 hb hd Q hK
          clear hd
          have hK := Lib.hid hK
          have hsz := hb.size
          go_wp2
          exact hK.out _ _ ⟨_, rfl, hsz, Blk.new _ _ _⟩ ((Below.refl _ _).alloc (Nat.le_refl _) _) (fun _ => ⟨_, rfl, Nat.le_refl _⟩)
        trivial
      · intro ff yw hb hf
        obtain ⟨g9, d9, lo9, bk9⟩ : NewB w7.heap.size 33 #[.int .u64 0, .int .u64 0, .int .u64 0, .int .u64 0, .int .u64 0, .int .u64 0, .int .u64 0, .int .u64 0, .int .u64 0, .int .u64 0, .int .u64 0, .int .u64 0, .int .u64 0, .int .u64 0, .int .u64 0, .int .u64 0] (ff 9) yw := hf 12 _ _ (by decide) rfl rfl
        have d50 : ff 50 = .agg (av XR) := hf 10 _ _ (by decide) rfl rfl
        have d51 : ff 51 = .bool BB := hf 11 _ _ (by decide) rfl rfl
        clear hf
        simp only [d9, d50, d51]
        clear d9 d50 d51
        refine stN (old := fun _ => 0) rfl rfl rfl rfl bk9 ?_
        intro w8 k9 hgr hsz
        have hbS : Below w7.heap.size w7 w8 := hb.grown hgr hb.size (fun k hk => by injection hk with hk; omega)
        clear hgr hsz hb bk9
        go_wp2
        go_meet
        case rel => exact ⟨g9, rfl, rfl, lo9, k9, hbS⟩
      · intro ff yw hb hf on oe hon hoe
        cases hon
        cases hoe
        obtain ⟨g9, d9, lo9, bk9⟩ : NewB w7.heap.size 33 #[.int .u64 0, .int .u64 0, .int .u64 0, .int .u64 0, .int .u64 0, .int .u64 0, .int .u64 0, .int .u64 0, .int .u64 0, .int .u64 0, .int .u64 0, .int .u64 0, .int .u64 0, .int .u64 0, .int .u64 0, .int .u64 0] (ff 9) yw := hf 12 _ _ (by decide) (by decide) rfl rfl
        have d40 : ff 40 = .tuple #[.agg (av XR), .bool BB] := hf 9 _ _ (by decide) (by decide) rfl rfl
        have d50 : ff 50 = .agg (av XR) := hf 10 _ _ (by decide) (by decide) rfl rfl
        clear hf
        simp only [d9, d40, d50]
        clear d9 d40 d50
        refine stN (old := fun _ => 0) rfl rfl rfl rfl bk9 ?_
        intro w8 k9 hgr hsz
        have hbS : Below w7.heap.size w7 w8 := hb.grown hgr hb.size (fun k hk => by injection hk with hk; omega)
        clear hgr hsz hb bk9
        go_wp2
        go_meet
        case rel => exact ⟨g9, rfl, rfl, lo9, k9, hbS⟩
    case rest =>
      obtain ⟨g9, hp9, hq10, lo9, k9, hb⟩ := hcut
      subst hp9 hq10
      have nnG2_g9 : G2 ≠ g9 := by have := k2.lt; omega
      have nnG6_g9 : G6 ≠ g9 := by have := k6.lt; omega
      replace lo9 : w.heap.size ≤ g9 := Nat.le_trans hb0.size lo9
      replace k2 := k2.below hb
      replace k6 := k6.below hb
      replace hb0 := hb0.trans (hb.mono hb0.size)
      clear hb k8
      cases BB
      · skip
        go_wp2_with (refine stP rfl rfl rfl rfl k2 so rfl (by kernel_rfl) ?_; intro w9 m2 hgr hsz)
        exact retT2 rfl rfl rfl m2 rfl rfl ⟨⟨_, rfl, rfl, by kernel_rfl, fun h => by simp at h⟩, hb0.grown hgr hb0.size (fun k hk => by injection hk with hk; omega)⟩
      · skip
        go_wp2
        refine wp_region_grow2 4 (fun k => Nat.beq k 11 || (Nat.ble 55 k && Nat.ble k 57)) _ [] (fun j x' q => (rr13L XR N0 ZB).getD j (fun _ _ => True) x' q) (fun _ => false) (fun f => #[_, _, .pointer (some ⟨G2, 0, none⟩), .bool false, _, _, .pointer (some ⟨G6, 0, none⟩), .bool true, .pointer (some ⟨G8, 0, none⟩), .pointer (some ⟨g9, 0, none⟩), .bool true, f 11, _, _, _, _, _, _, _, _, _, _, _, _, _, _, _, _, _, _, _, _, _, _, _, _, _, _, _, _, _, _, _, _, _, _, _, _, _, _, _, _, _, _, _, f 55, f 56, f 57, _, _, _, _, _, _, _, _, _, _, _, _, _, _, _]) (fun f => rfl) (by kernel_rfl) (by kernel_rfl) (by kernel_rfl) (by kernel_rfl) (by kernel_rfl) (rr13S _ _ _) (fun _ _ _ h => by cases h) ?_ ?_
        · refine steps2_cons ?_ ?_
          · as_aux_lemma =>
            intro f w1 hb hd Q hK
            clear hd
            have hK := Lib.hid hK
            refine ldNw (by kernel_rfl) rfl rfl (k9.below hb) ?_
            refine wpList_nil ?_
            exact hK.out _ _ rfl (Below.refl _ _) (fun h => by cases h)
          refine steps2_cons ?_ ?_
          · as_aux_lemma =>
            intro f w1 hb hd Q hK
            clear hd
            have hK := Lib.hid hK
            go_wp2_with fail
            refine (c0.out _).mono ?_
            rintro e w2 ⟨rfl, hb2⟩
            go_wp2
            exact hK.out _ _ rfl hb2 (fun h => by cases h)
          refine steps2_cons ?_ ?_
          · as_aux_lemma =>
            intro f w1 hb hd Q hK
            have e55 : f 55 = .agg (av XR) := hd.1 rfl
            have e56 : f 56 = .agg (av N0) := hd.2.1 rfl
            clear hd
            simp only [e55, e56] at hK
            have hK := Lib.hid hK
            have hq := fun w => (run_eql_N XR N0 w).trans (by rw [q1.out])
            go_wp2
            exact hK.out _ _ rfl (Below.refl _ _) (fun h => by cases h)
          refine steps2_cons ?_ ?_
          · as_aux_lemma =>
            intro f w1 hb hd Q hK
            have e57 : f 57 = .bool ZB := hd.1 rfl
            clear hd
            simp only [e57] at hK
            have hK := Lib.hid hK
            go_wp2
            exact hK.out _ _ rfl (Below.refl _ _) (fun h => by cases h)
          trivial
        · intro f1 vd1 hb hf hne
          refine wpList_nil ?_
          have d11 : f1 11 = .bool ZB := hf 3 _ _ (by decide) rfl rfl
          clear hf hne
          simp only [d11]
          clear d11
          replace k2 := k2.below hb
          replace k6 := k6.below hb
          replace k9 := k9.below hb
          replace hb0 := hb0.trans (hb.mono hb0.size)
          clear hb
          have hmk2 : True := trivial
          cases od
          · skip
            cases ZB
            · skip
              go_wp2
              refine wp_region_grow2 4 (fun k => (Nat.ble 69 k && Nat.ble k 72)) _ [] (fun j x' q => (rrF018L YF XR N1).getD j (fun _ _ => True) x' q) (fun _ => false) (fun f => #[_, _, .pointer (some ⟨G2, 0, none⟩), .bool false, _, _, .pointer (some ⟨G6, 0, none⟩), .bool true, .pointer (some ⟨G8, 0, none⟩), .pointer (some ⟨g9, 0, none⟩), .bool true, .bool false, _, _, _, _, _, _, _, _, _, _, _, _, _, _, _, _, _, _, _, _, _, _, _, _, _, _, _, _, _, _, _, _, _, _, _, _, _, _, _, _, _, _, _, _, _, _, _, _, _, _, _, _, _, _, _, _, _, f 69, f 70, f 71, f 72]) (fun f => rfl) (by kernel_rfl) (by kernel_rfl) (by kernel_rfl) (by kernel_rfl) (by kernel_rfl) (rrF018S _ _ _) (fun _ _ _ h => by cases h) ?_ ?_
              · refine steps2_cons ?_ ?_
                · as_aux_lemma =>
                  intro f w1 hb hd Q hK
                  clear hd
                  have hK := Lib.hid hK
                  refine ldNw (by kernel_rfl) rfl rfl (k9.below hb) ?_
                  refine wpList_nil ?_
                  exact hK.out _ _ rfl (Below.refl _ _) (fun h => by cases h)
                refine steps2_cons ?_ ?_
                · as_aux_lemma =>
                  intro f w1 hb hd Q hK
                  clear hd
                  have hK := Lib.hid hK
                  refine ldNw (by kernel_rfl) rfl rfl (k6.below hb) ?_
                  refine wpList_nil ?_
                  exact hK.out _ _ rfl (Below.refl _ _) (fun h => by cases h)
                refine steps2_cons ?_ ?_
                · as_aux_lemma =>
                  intro f w1 hb hd Q hK
                  clear hd
                  have hK := Lib.hid hK
                  go_wp2_with fail
                  refine (c1.out _).mono ?_
                  rintro e w2 ⟨rfl, hb2⟩
                  go_wp2
                  exact hK.out _ _ rfl hb2 (fun h => by cases h)
                refine steps2_cons ?_ ?_
                · as_aux_lemma =>
                  intro f w1 hb hd Q hK
                  have e69 : f 69 = .agg (av XR) := hd.1 rfl
                  have e70 : f 70 = .agg (av YF) := hd.2.1 rfl
                  have e71 : f 71 = .agg (av N1) := hd.2.2.1 rfl
                  clear hd
                  simp only [e69, e70, e71] at hK
                  have hK := Lib.hid hK
                  refine bdT (by simp only [e69, e70, e71]; kernel_rfl) rfl e69 e70 e71 ?_
                  refine wpList_nil ?_
                  simp only [e69, e70, e71]
                  exact hK.out _ _ rfl (Below.refl _ _) (fun h => by cases h)
                trivial
              · intro f2 vd2 hb hf hne
                have d72 : f2 72 = .agg (tcf XR YF N1) := hf 3 _ _ (by decide) rfl rfl
                clear hf hne
                simp only [d72]
                clear d72
                replace k2 := k2.below hb
                replace k6 := k6.below hb
                replace k9 := k9.below hb
                replace hb0 := hb0.trans (hb.mono hb0.size)
                clear hb
                refine stT rfl rfl rfl rfl k2 so ?_
                intro vs2_0 mG2 hgr hsz
                replace hb0 := hb0.grown hgr hb0.size (fun k hk => by injection hk with hk; omega)
                clear hgr hsz
                go_wp2
                exact retT2 rfl rfl rfl mG2 (tcf_size _ _ _) rfl ⟨⟨_, rfl, tcf_size _ _ _, tcf_one _ _ _, fun _ => by rw [← hXF.out]; rfl⟩, hb0⟩
            · skip
              go_wp2
              refine wp_region_grow2 4 (fun k => (Nat.ble 69 k && Nat.ble k 72)) _ [] (fun j x' q => (rrF118L YF XR N1).getD j (fun _ _ => True) x' q) (fun _ => false) (fun f => #[_, _, .pointer (some ⟨G2, 0, none⟩), .bool false, _, _, .pointer (some ⟨G6, 0, none⟩), .bool true, .pointer (some ⟨G8, 0, none⟩), .pointer (some ⟨g9, 0, none⟩), .bool true, .bool true, _, _, _, _, _, _, _, _, _, _, _, _, _, _, _, _, _, _, _, _, _, _, _, _, _, _, _, _, _, _, _, _, _, _, _, _, _, _, _, _, _, _, _, _, _, _, _, _, _, _, _, _, _, _, _, _, _, f 69, f 70, f 71, f 72]) (fun f => rfl) (by kernel_rfl) (by kernel_rfl) (by kernel_rfl) (by kernel_rfl) (by kernel_rfl) (rrF118S _ _ _) (fun _ _ _ h => by cases h) ?_ ?_
              · refine steps2_cons ?_ ?_
                · as_aux_lemma =>
                  intro f w1 hb hd Q hK
                  clear hd
                  have hK := Lib.hid hK
                  refine ldNw (by kernel_rfl) rfl rfl (k9.below hb) ?_
                  refine wpList_nil ?_
                  exact hK.out _ _ rfl (Below.refl _ _) (fun h => by cases h)
                refine steps2_cons ?_ ?_
                · as_aux_lemma =>
                  intro f w1 hb hd Q hK
                  clear hd
                  have hK := Lib.hid hK
                  refine ldNw (by kernel_rfl) rfl rfl (k6.below hb) ?_
                  refine wpList_nil ?_
                  exact hK.out _ _ rfl (Below.refl _ _) (fun h => by cases h)
                refine steps2_cons ?_ ?_
                · as_aux_lemma =>
                  intro f w1 hb hd Q hK
                  clear hd
                  have hK := Lib.hid hK
                  go_wp2_with fail
                  refine (c1.out _).mono ?_
                  rintro e w2 ⟨rfl, hb2⟩
                  go_wp2
                  exact hK.out _ _ rfl hb2 (fun h => by cases h)
                refine steps2_cons ?_ ?_
                · as_aux_lemma =>
                  intro f w1 hb hd Q hK
                  have e69 : f 69 = .agg (av XR) := hd.1 rfl
                  have e70 : f 70 = .agg (av YF) := hd.2.1 rfl
                  have e71 : f 71 = .agg (av N1) := hd.2.2.1 rfl
                  clear hd
                  simp only [e69, e70, e71] at hK
                  have hK := Lib.hid hK
                  refine bdT (by simp only [e69, e70, e71]; kernel_rfl) rfl e69 e70 e71 ?_
                  refine wpList_nil ?_
                  simp only [e69, e70, e71]
                  exact hK.out _ _ rfl (Below.refl _ _) (fun h => by cases h)
                trivial
              · intro f3 vd3 hb hf hne
                have d72 : f3 72 = .agg (tcf XR YF N1) := hf 3 _ _ (by decide) rfl rfl
                clear hf hne
                simp only [d72]
                clear d72
                replace k2 := k2.below hb
                replace k6 := k6.below hb
                replace k9 := k9.below hb
                replace hb0 := hb0.trans (hb.mono hb0.size)
                clear hb
                refine stT rfl rfl rfl rfl k2 so ?_
                intro vs3_0 mG2 hgr hsz
                replace hb0 := hb0.grown hgr hb0.size (fun k hk => by injection hk with hk; omega)
                clear hgr hsz
                go_wp2
                exact retT2 rfl rfl rfl mG2 (tcf_size _ _ _) rfl ⟨⟨_, rfl, tcf_size _ _ _, tcf_one _ _ _, fun _ => by rw [← hXF.out]; rfl⟩, hb0⟩
          · skip
            cases ZB
            · skip
              go_wp2
              refine wp_region_grow2 3 (fun k => (Nat.ble 66 k && Nat.ble k 68)) _ [] (fun j x' q => (rrT17L XR XN N0).getD j (fun _ _ => True) x' q) (fun _ => false) (fun f => #[_, _, .pointer (some ⟨G2, 0, none⟩), .bool false, _, _, .pointer (some ⟨G6, 0, none⟩), .bool true, .pointer (some ⟨G8, 0, none⟩), .pointer (some ⟨g9, 0, none⟩), .bool true, .bool false, _, _, _, _, _, _, _, _, _, _, _, _, _, _, _, _, _, _, _, _, _, _, _, _, _, _, _, _, _, _, _, _, _, _, _, _, _, _, _, _, _, _, _, _, _, _, _, _, _, _, _, _, _, _, f 66, f 67, f 68, _, _, _, _]) (fun f => rfl) (by kernel_rfl) (by kernel_rfl) (by kernel_rfl) (by kernel_rfl) (by kernel_rfl) (rrT17S _ _ _) (fun _ _ _ h => by cases h) ?_ ?_
              · refine steps2_cons ?_ ?_
                · as_aux_lemma =>
                  intro f w1 hb hd Q hK
                  clear hd
                  have hK := Lib.hid hK
                  go_wp2_with fail
                  refine (c0.out _).mono ?_
                  rintro e w2 ⟨rfl, hb2⟩
                  go_wp2
                  exact hK.out _ _ rfl hb2 (fun h => by cases h)
                refine steps2_cons ?_ ?_
                · as_aux_lemma =>
                  intro f w1 hb hd Q hK
                  clear hd
                  have hK := Lib.hid hK
                  refine ldNw (by kernel_rfl) rfl rfl (k9.below hb) ?_
                  refine wpList_nil ?_
                  exact hK.out _ _ rfl (Below.refl _ _) (fun h => by cases h)
                refine steps2_cons ?_ ?_
                · as_aux_lemma =>
                  intro f w1 hb hd Q hK
                  have e66 : f 66 = .agg (av N0) := hd.1 rfl
                  have e67 : f 67 = .agg (av XR) := hd.2.1 rfl
                  clear hd
                  simp only [e66, e67] at hK
                  have hK := Lib.hid hK
                  go_wp2_with fail
                  refine (cng.out _).mono ?_
                  rintro e w2 ⟨rfl, hb2⟩
                  go_wp2
                  exact hK.out _ _ rfl hb2 (fun h => by cases h)
                trivial
              · intro f4 vd4 hb hf hne
                have d68 : f4 68 = .agg (av XN) := hf 2 _ _ (by decide) rfl rfl
                clear hf hne
                simp only [d68]
                clear d68
                replace k2 := k2.below hb
                replace k6 := k6.below hb
                replace k9 := k9.below hb
                replace hb0 := hb0.trans (hb.mono hb0.size)
                clear hb
                refine stN rfl rfl rfl rfl k9 ?_
                intro vs4_0 mg9 hgr hsz
                replace k2 := k2.grown hgr (fun hh => nnG2_g9 (by injection hh))
                replace k6 := k6.grown hgr (fun hh => nnG6_g9 (by injection hh))
                clear k9
                replace hb0 := hb0.grown hgr hb0.size (fun k hk => by injection hk with hk; omega)
                clear hgr hsz
                refine wpList_nil ?_
                go_wp2
                refine wp_region_grow2 4 (fun k => (Nat.ble 69 k && Nat.ble k 72)) _ [] (fun j x' q => (rrT18L YF XN N1).getD j (fun _ _ => True) x' q) (fun _ => false) (fun f => #[_, _, .pointer (some ⟨G2, 0, none⟩), .bool false, _, _, .pointer (some ⟨G6, 0, none⟩), .bool true, .pointer (some ⟨G8, 0, none⟩), .pointer (some ⟨g9, 0, none⟩), .bool true, .bool false, _, _, _, _, _, _, _, _, _, _, _, _, _, _, _, _, _, _, _, _, _, _, _, _, _, _, _, _, _, _, _, _, _, _, _, _, _, _, _, _, _, _, _, _, _, _, _, _, _, _, _, _, _, _, f4 66, f4 67, .agg (av XN), f 69, f 70, f 71, f 72]) (fun f => rfl) (by kernel_rfl) (by kernel_rfl) (by kernel_rfl) (by kernel_rfl) (by kernel_rfl) (rrT18S _ _ _) (fun _ _ _ h => by cases h) ?_ ?_
                · refine steps2_cons ?_ ?_
                  · as_aux_lemma =>
                    intro f w1 hb hd Q hK
                    clear hd
                    have hK := Lib.hid hK
                    refine ldNw (by kernel_rfl) rfl rfl (mg9.below hb) ?_
                    refine wpList_nil ?_
                    exact hK.out _ _ rfl (Below.refl _ _) (fun h => by cases h)
                  refine steps2_cons ?_ ?_
                  · as_aux_lemma =>
                    intro f w1 hb hd Q hK
                    clear hd
                    have hK := Lib.hid hK
                    refine ldNw (by kernel_rfl) rfl rfl (k6.below hb) ?_
                    refine wpList_nil ?_
                    exact hK.out _ _ rfl (Below.refl _ _) (fun h => by cases h)
                  refine steps2_cons ?_ ?_
                  · as_aux_lemma =>
                    intro f w1 hb hd Q hK
                    clear hd
                    have hK := Lib.hid hK
                    go_wp2_with fail
                    refine (c1.out _).mono ?_
                    rintro e w2 ⟨rfl, hb2⟩
                    go_wp2
                    exact hK.out _ _ rfl hb2 (fun h => by cases h)
                  refine steps2_cons ?_ ?_
                  · as_aux_lemma =>
                    intro f w1 hb hd Q hK
                    have e69 : f 69 = .agg (av XN) := hd.1 rfl
                    have e70 : f 70 = .agg (av YF) := hd.2.1 rfl
                    have e71 : f 71 = .agg (av N1) := hd.2.2.1 rfl
                    clear hd
                    simp only [e69, e70, e71] at hK
                    have hK := Lib.hid hK
                    refine bdT (by simp only [e69, e70, e71]; kernel_rfl) rfl e69 e70 e71 ?_
                    refine wpList_nil ?_
                    simp only [e69, e70, e71]
                    exact hK.out _ _ rfl (Below.refl _ _) (fun h => by cases h)
                  trivial
                · intro f5 vd5 hb hf hne
                  have d72 : f5 72 = .agg (tcf XN YF N1) := hf 3 _ _ (by decide) rfl rfl
                  clear hf hne
                  simp only [d72]
                  clear d72
                  replace k2 := k2.below hb
                  replace k6 := k6.below hb
                  replace mg9 := mg9.below hb
                  replace hb0 := hb0.trans (hb.mono hb0.size)
                  clear hb
                  refine stT rfl rfl rfl rfl k2 so ?_
                  intro vs5_0 mG2 hgr hsz
                  replace hb0 := hb0.grown hgr hb0.size (fun k hk => by injection hk with hk; omega)
                  clear hgr hsz
                  go_wp2
                  exact retT2 rfl rfl rfl mG2 (tcf_size _ _ _) rfl ⟨⟨_, rfl, tcf_size _ _ _, tcf_one _ _ _, fun _ => by rw [← hXF.out]; rfl⟩, hb0⟩
            · skip
              go_wp2_with (refine stP rfl rfl rfl rfl k2 so rfl (by kernel_rfl) ?_; intro w9 m2 hgr hsz)
              exact retT2 rfl rfl rfl m2 rfl rfl ⟨⟨_, rfl, rfl, by kernel_rfl, fun h => by simp at h⟩, hb0.grown hgr hb0.size (fun k hk => by injection hk with hk; omega)⟩
end Go.Proofs.YtpaldgajkhmhbaaDoor

namespace Fe
theorem rb_nB {b : Nat → Int} (hr : ∀ j, 0 ≤ b j ∧ b j < 256) (h : okB b = true) (j : Nat) (hj : j < 32) : Dg.rb (nB b) j = clr b j := by
  unfold okB at h
  rw [Bool.and_eq_true] at h
  obtain ⟨_, _, n, hn, hd⟩ := ok_get (clr_r hr) h.1
  have e : nB b = n := hn
  rw [e]
  have hd' := hd (j / 2) (by omega)
  have h1 := clr_r hr (2 * (j / 2))
  have h2 := clr_r hr (2 * (j / 2) + 1)
  unfold Dg.bd at hd'
  rcases (show j = 2 * (j / 2) ∨ j = 2 * (j / 2) + 1 by omega) with q | q
  · have := Dg.rb_lo n (j / 2)
    rw [← hd'] at this
    rw [q, ← this]
    omega
  · have := Dg.rb_hi n (j / 2)
    rw [← hd'] at this
    rw [q, ← this]
    omega
theorem nB_lt (b : Nat → Int) : nB b < P := nv_lt _
theorem enc_dec {b : Nat → Int} (hr : ∀ j, 0 ≤ b j ∧ b j < 256) (h : okB b = true) (j : Nat) (hj : j < 32) : Go.Proofs.YtpaldgajkhmhbaaDoor.ptB (zf (nB b)).val (zf (gX (nB b) (odB b))).val j = b j := by
  have hy : (zf (nB b)).val = nB b := Nat.mod_eq_of_lt (nB_lt b)
  have hx : (zf (gX (nB b) (odB b))).val = gX (nB b) (odB b) := Nat.mod_eq_of_lt (gX_lt _ _)
  rw [hy, hx]
  have hg := h
  unfold okB at hg
  rw [Bool.and_eq_true] at hg
  have ho := g_odd hg.2
  unfold Go.Proofs.YtpaldgajkhmhbaaDoor.ptB
  split
  · rename_i e
    subst e
    rw [rb_nB hr h 31 (by decide)]
    have h31 := hr 31
    unfold clr
    rw [if_pos rfl]
    unfold odB at ho
    by_cases q : gX (nB b) (odB b) % 2 = 1
    · rw [if_pos q]
      unfold odB at q
      rw [decide_eq_true q] at ho
      have := of_decide_eq_true ho.symm
      omega
    · rw [if_neg q]
      unfold odB at q
      rw [decide_eq_false q] at ho
      have := of_decide_eq_false ho.symm
      omega
  · rename_i e
    rw [rb_nB hr h j hj]
    unfold clr
    rw [if_neg e]
end Fe
namespace Go.Proofs.YtpaldgajkhmhbaaDoor
open Go.RowKit
theorem av_ext {f g : Nat → Int} (h : ∀ j, j < 16 → f j = g j) : av f = av g := by
  unfold av
  rw [h 0 (by decide), h 1 (by decide), h 2 (by decide), h 3 (by decide), h 4 (by decide), h 5 (by decide), h 6 (by decide), h 7 (by decide), h 8 (by decide), h 9 (by decide), h 10 (by decide), h 11 (by decide), h 12 (by decide), h 13 (by decide), h 14 (by decide), h 15 (by decide)]
theorem rread_h (g o c : Nat) (b : Nat → Int) (hr : ∀ j, 0 ≤ b j ∧ b j < 256) (w : World) (hg : g < w.heap.size) (hc : ∀ j, j < 32 → w.cell? ⟨g, o + j, none⟩ = some (.int .u8 (b j))) (ok : Bool) (y : Nat) (hy : y < Fe.P) (hok : lessB (Dg.bd (Fe.clr b)) pd = ok) (hY : av (readF (Fe.clr b)) = av (Dg.dg y)) :
    Calls Tryd.prog 14 #[.slice (some ⟨g, o, none⟩) 32 c] w (PostRd (ok && Fe.gB y (Fe.odB b)) (Dg.dg (Fe.gX y (Fe.odB b))) (Dg.dg y) (Dg.dg 1) w) := by
  have l := Fe.mod_lt'
  have hRd : ∀ (g c : Nat) (w : World), RowB w g 32 c (Fe.clr b) → Calls Tryd.prog 59 #[.slice (some ⟨g, 0, none⟩) 32 c] w (PostR2 (Dg.dg y) ok w) := fun g c w h => by
    unfold PostR2
    rw [← hY, ← hok]
    exact read_s (Fe.clr b) g 0 c w (fun j hj => by rw [Nat.zero_add]; exact h.cell j hj) (Fe.clr_r hr) h.lt
  have h := rRead_g (g := g) (o := o) (c := c) (b := b) (od := Fe.odB b) (XF := if Fe.odB b then Dg.dg ((0 + (Fe.P - Fe.rN (Fe.uN y) (Fe.vN y))) % Fe.P) else Dg.dg (Fe.rN (Fe.uN y) (Fe.vN y))) hr w hg hc rfl hRd (rMul_c y y hy hy) (number_c 1 (by decide)) (rSub_c (y * y % Fe.P) 1 (l _) Fe.P_one) rD_c (rMul_c Fe.dN (y * y % Fe.P) Fe.dN_lt (l _)) (rAdd_c (Fe.dN * (y * y % Fe.P) % Fe.P) 1 (l _) Fe.P_one) (rRoot_c (Fe.uN y) (Fe.vN y) (Fe.uN_lt y) (Fe.vN_lt y)) (number_c 0 (by decide)) (rSub_c 0 (Fe.rN (Fe.uN y) (Fe.vN y)) Fe.P_pos (Fe.rN_lt _ _)) (eqN_dec (Fe.rN_lt (Fe.uN y) (Fe.vN y)) Fe.P_pos) rfl
  have e1 : (ok && Fe.bN (Fe.uN y) (Fe.vN y) && !(Fe.odB b && decide (Fe.rN (Fe.uN y) (Fe.vN y) = 0))) = (ok && Fe.gB y (Fe.odB b)) := by unfold Fe.gB; rw [Bool.and_assoc]
  have e2 : (if Fe.odB b then Dg.dg ((0 + (Fe.P - Fe.rN (Fe.uN y) (Fe.vN y))) % Fe.P) else Dg.dg (Fe.rN (Fe.uN y) (Fe.vN y))) = Dg.dg (Fe.gX y (Fe.odB b)) := by
    unfold Fe.gX
    cases Fe.odB b
    · rw [if_neg (by decide), if_neg (by decide)]
    · rw [if_pos rfl, if_pos rfl, Nat.zero_add]
  rw [e1, e2] at h
  exact h
theorem rread_c (g o c : Nat) (b : Nat → Int) (hr : ∀ j, 0 ≤ b j ∧ b j < 256) (w : World) (hg : g < w.heap.size) (hc : ∀ j, j < 32 → w.cell? ⟨g, o + j, none⟩ = some (.int .u8 (b j))) :
    Calls Tryd.prog 14 #[.slice (some ⟨g, o, none⟩) 32 c] w (PostRd (Fe.okB b) (Dg.dg (Fe.gX (Fe.nB b) (Fe.odB b))) (Dg.dg (Fe.nB b)) (Dg.dg 1) w) := by
  have hs := Fe.ok_same (Fe.clr_r hr)
  unfold Fe.okB
  cases hk : getOk (Fe.clr b)
  · have hl : lessB (Dg.bd (Fe.clr b)) pd = false := hs.symm.trans hk
    have h := rread_h g o c b hr w hg hc false 0 Fe.P_pos hl (by unfold readF; rw [if_neg (by rw [hl]; decide), dg_zero])
    refine h.mono ?_
    rintro e w' ⟨⟨cs, he, hs, ho, _⟩, hb⟩
    rw [Bool.false_and] at he
    exact ⟨⟨cs, he, hs, ho, fun q => by cases q⟩, hb⟩
  · have hl : lessB (Dg.bd (Fe.clr b)) pd = true := hs.symm.trans hk
    obtain ⟨_, _, n, hn, hd⟩ := Fe.ok_get (Fe.clr_r hr) hk
    have e : Fe.nB b = n := hn
    refine rread_h g o c b hr w hg hc true (Fe.nB b) (Fe.nB_lt b) hl ?_
    unfold readF
    rw [if_pos hl, e]
    exact av_ext hd
set_option maxRecDepth 20000 in
set_option maxHeartbeats 8000000 in
theorem rread_x (p : Option Addr) (n c : Nat) (hn : n ≠ 32) (F G H : Nat → Int) (w : World) : Calls Tryd.prog 14 #[.slice p n c] w (PostRd false F G H w) := by
  have hne : ¬ (n : Int) = 32 := by omega
  go_enter Tryd.func14, Tryd.ntmps14
  go_wp2_with (refine stP rfl rfl rfl rfl (Blk.new _ _ _) rfl rfl (by kernel_rfl) ?_; intro w2 m2 hgr hsz)
  exact retT2 rfl rfl rfl m2 rfl rfl ⟨⟨_, rfl, rfl, by kernel_rfl, fun q => by cases q⟩, ((Below.refl _ _).alloc (Nat.le_refl _) _).grown hgr (by rw [World.size_alloc]; omega) (fun k hk => by injection hk with hk; omega)⟩
set_option maxRecDepth 20000 in
set_option maxHeartbeats 8000000 in
theorem egets_F (p : Option Addr) (n c : Nat) (b : Nat → Int) (hn : n ≤ 100) (w : World) (hCv : CvP w) (hL : ∀ w', Below w.heap.size w w' → Calls Tryd.prog 12 #[.slice p n c] w' (PostLent n b w'))
    (hG : ∀ w' g', RowB w' g' (n + 12) (n + 12) (lentF n b) → CvP w' → Calls Tryd.prog 13 #[.slice (some ⟨g', 0, none⟩) n (n + 12)] w' fun e w'' => e = .returned (.tuple #[.agg (pcs ⟨0, 0, 0, 0, 0⟩ ⟨0, 0, 0, 0, 0⟩ ⟨0, 0, 0, 0, 0⟩ ⟨0, 0, 0, 0, 0⟩), .bool false]) ∧ Below w'.heap.size w' w'')
    (hR : ∀ w', Below w.heap.size w w' → Calls Tryd.prog 14 #[.slice p n c] w' (PostRd false (fun _ => 0) (fun _ => 0) (fun _ => 0) w'))
    (hK : ∀ w' g', RowB w' g' (n + 12) (n + 12) (lentF n b) → Below w.heap.size w w' → Calls Tryd.prog 15 #[.slice (some ⟨g', 0, none⟩) n (n + 12), .slice p n c] w' fun e w'' => e = .returned (.bool true) ∧ Below w'.heap.size w' w'') :
    Calls Tryd.prog 3 #[.slice p n c] w fun e w' => e = .returned (.bool true) ∧ Below w.heap.size w w' := by
  have hi : (n : Int) ≤ 100 := by omega
  replace hL := Lib.hid hL
  replace hG := Lib.hid hG
  replace hR := Lib.hid hR
  replace hK := Lib.hid hK
  replace hCv := Lib.hid hCv
  clear hn
  go_enter Tryd.func3, Tryd.ntmps3
  go_wp2_with fail
  refine (awake4_c w hCv.out).mono ?_
  rintro e w1 ⟨rfl, hb0⟩
  go_wp2_with fail
  refine (hL.out w1 hb0).mono ?_
  rintro e w2 ⟨g2, rfl, hg2, hL2, hb⟩
  replace hb0 := hb0.trans (hb.mono hb0.size)
  replace hL2 := Lib.hid hL2
  clear hb hg2 hL
  go_wp2_with fail
  refine (hG.out w2 g2 hL2.out (hCv.out.below hb0 hCv.out.lt)).mono ?_
  rintro e w3 ⟨rfl, hb⟩
  replace hb0 := hb0.trans (hb.mono hb0.size)
  replace hL2 := Lib.hid (hL2.out.below hb)
  clear hb hG
  have LO := hb0.size
  have L2 := hL2.out.lt
  go_wp2_with (refine stPt rfl rfl rfl rfl (Blk.new _ _ _) rfl rfl (by kernel_rfl) ?_; intro w4 k4 hgr hsz; replace hL2 := Lib.hid ((hL2.out.below ((Below.refl _ _).alloc (Nat.le_refl _) _)).grown hgr (fun h => by injection h with h; omega)); replace hb0 := (hb0.alloc hb0.size _).grown hgr (Nat.le_trans hb0.size (by simp)) (fun k hk => by injection hk with hk; omega); clear hgr hsz)
  obtain ⟨G4, hG4⟩ : ∃ G, G = w3.heap.size := ⟨_, rfl⟩
  rw [← hG4] at k4 LO ⊢
  clear hG4 L2 LO
  refine (hR.out w4 hb0).mono ?_
  rintro e w5 ⟨⟨cs, rfl, hs, ho, _⟩, hb⟩
  replace k4 := k4.below hb
  replace hb0 := hb0.trans (hb.mono hb0.size)
  replace hL2 := Lib.hid (hL2.out.below hb)
  clear hb hR
  have LO := hb0.size
  have L2 := hL2.out.lt
  have L4 := k4.lt
  go_wp2_with (refine stP rfl rfl rfl rfl (Blk.new _ _ _) rfl hs ho ?_; intro w6 k6 hgr hsz; replace k4 := (k4.alloc _).grown hgr (fun h => by injection h with h; omega); replace hL2 := Lib.hid ((hL2.out.below ((Below.refl _ _).alloc (Nat.le_refl _) _)).grown hgr (fun h => by injection h with h; omega)); replace hb0 := (hb0.alloc hb0.size _).grown hgr (Nat.le_trans hb0.size (by simp)) (fun k hk => by injection hk with hk; omega); clear hgr hsz)
  clear L2 L4 LO k6
  refine (hK.out w6 g2 hL2.out hb0).mono ?_
  rintro e w7 ⟨rfl, hb⟩
  replace k4 := k4.below hb
  have hP := Lib.hid (hb0.trans (hb.mono hb0.size))
  clear hb hb0 hK hL2
  have heq : ∀ w, (binOp .eql 29 (.agg (pcs ⟨0, 0, 0, 0, 0⟩ ⟨0, 0, 0, 0, 0⟩ ⟨0, 0, 0, 0, 0⟩ ⟨0, 0, 0, 0, 0⟩)) (.agg #[.int .u64 0, .int .u64 0, .int .u64 0, .int .u64 0, .int .u64 0, .int .u64 0, .int .u64 0, .int .u64 0, .int .u64 0, .int .u64 0, .int .u64 0, .int .u64 0, .int .u64 0, .int .u64 0, .int .u64 0, .int .u64 0, .int .u64 0, .int .u64 0, .int .u64 0, .int .u64 0])).run Tryd.prog w = .ok (.bool true) w := fun w => by kernel_rfl
  go_wp2_with (refine ldPt rfl rfl rfl k4 rfl ?_)
  go_returns
  exact ⟨rfl, hP.out⟩
theorem same_reflG (x y : Fin Fe.P) : (decide (x = x) && decide (y = y)) = true := by rw [decide_eq_true rfl, decide_eq_true rfl]; rfl
def gt13L (x : Fin Fe.P) (y : Fin Fe.P) (g : Nat) (o : Nat) (c : Nat) (g5 : Nat) : List (Value → World → Prop) := [
  PqP x y,
  Eq1 (.bool true),
  Eq1 (.bool true),
  Eq1 (.slice (some ⟨g5, 0, none⟩) 32 32),
  Eq1 (.slice (some ⟨g, o, none⟩) 32 c),
  Eq1 (.bool true),
  Eq1 (.bool true),
  Eq1 (.bool true),
  RqP x y,
  RbQ x y,
  Eq1 (.slice (some ⟨g, o, none⟩) 32 c),
  Eq1 (.bool true),
  Eq1 (.bool true),
  Eq1 (.bool true),
  PqP x y,
  RqP x y,
  RqP x y,
  Eq1 (.bool true),
  Eq1 (.bool true),
  Eq1 (.bool true)]
theorem gt13S (x : Fin Fe.P) (y : Fin Fe.P) (g : Nat) (o : Nat) (c : Nat) (g5 : Nat) : ∀ j x' q q', (gt13L x y g o c g5).getD j (fun _ _ => True) x' q → Below q.heap.size q q' → (gt13L x y g o c g5).getD j (fun _ _ => True) x' q' := by
  refine sta_all _ ?_
  simp only [gt13L, List.mem_cons, forall_eq_or_imp, List.not_mem_nil, false_implies, implies_true, and_true]
  exact ⟨sta_pq _ _, sta_eq _, sta_eq _, sta_eq _, sta_eq _, sta_eq _, sta_eq _, sta_eq _, sta_rq _ _, sta_rbq _ _, sta_eq _, sta_eq _, sta_eq _, sta_eq _, sta_pq _ _, sta_rq _ _, sta_rq _ _, sta_eq _, sta_eq _, sta_eq _⟩
set_option maxRecDepth 20000 in
set_option maxHeartbeats 8000000 in
theorem egets_T (g o c : Nat) (b : Nat → Int) (hr : ∀ j, 0 ≤ b j ∧ b j < 256) (w : World) (hCv : CvP w) (hg : g < w.heap.size) (hc : ∀ j, j < 32 → w.cell? ⟨g, o + j, none⟩ = some (.int .u8 (b j))) (hok : Fe.okB b = true) :
    Calls Tryd.prog 3 #[.slice (some ⟨g, o, none⟩) 32 c] w fun e w' => e = .returned (.bool true) ∧ Below w.heap.size w w' := by
  have hS : ∀ w', Below w.heap.size w w' → SAt w' (some ⟨g, o, none⟩) 32 c b := fun w' hb => SAt.below (.inr (.inr ⟨g, o, rfl, hg, hc⟩)) hb
  have hL := fun w' hb => lentB_c (some ⟨g, o, none⟩) 32 c b (by decide) w' (hS w' hb)
  have hKp := fun w' g' hR hb => keptB_c g' (some ⟨g, o, none⟩) 32 c b (by decide) w' (hS w' hb) hR
  have hRd : ∀ w', Below w.heap.size w w' → Calls Tryd.prog 14 #[.slice (some ⟨g, o, none⟩) 32 c] w' (PostRd (Fe.okB b) (Dg.dg (Fe.gX (Fe.nB b) (Fe.odB b))) (Dg.dg (Fe.nB b)) (Dg.dg 1) w') := fun w' hb => rread_c g o c b hr w' (Nat.lt_of_lt_of_le hg hb.size) (fun j hj => (hb.cell (p := ⟨g, o + j, none⟩) hg).trans (hc j hj))
  rw [hok] at hRd
  have hra : Fe.RA (Fe.gX (Fe.nB b) (Fe.odB b)) (Fe.nB b) 1 (Fe.zf (Fe.gX (Fe.nB b) (Fe.odB b))) (Fe.zf (Fe.nB b)) := by
    have hgb := hok
    unfold Fe.okB at hgb
    rw [Bool.and_eq_true] at hgb
    exact (Fe.pa_got (Fe.nB_lt b) hgb.2).ra
  have hGt : ∀ w' g', RowB w' g' (32 + 12) (32 + 12) (lentF 32 b) → CvP w' → Calls Tryd.prog 13 #[.slice (some ⟨g', 0, none⟩) 32 (32 + 12)] w' fun e w'' => ∃ X Y Z T, e = .returned (.tuple #[.agg (pcs X Y Z T), .bool true]) ∧ PtE X Y Z T (Fe.zf (Fe.gX (Fe.nB b) (Fe.odB b))) (Fe.zf (Fe.nB b)) ∧ Below w'.heap.size w' w'' := fun w' g' hR hC => getq_c g' 0 (32 + 12) b hr w' hR.lt (fun j hj => by rw [Nat.zero_add, hR.cell j (by omega)]; unfold lentF; rw [if_pos hj]) hC hok
  have hSame : ∀ g1 c1 w', Below w.heap.size w w' → RowB w' g1 32 c1 (fun j => ptB (Fe.zf (Fe.nB b)).val (Fe.zf (Fe.gX (Fe.nB b) (Fe.odB b))).val j) → Calls Tryd.prog 18 #[.slice (some ⟨g1, 0, none⟩) 32 c1, .slice (some ⟨g, o, none⟩) 32 c] w' (PostV (.bool true) w') := fun g1 c1 w' hb hR => by
    have h := sameBytes_c g1 0 c1 32 g o c 32 _ b (by decide) (by decide) w' (fun j hj => by rw [Nat.zero_add]; exact hR.cell j hj) (fun j hj => (hb.cell (p := ⟨g, o + j, none⟩) hg).trans (hc j hj)) hR.lt (Nat.lt_of_lt_of_le hg hb.size)
    have e : sameB 32 32 (fun j => ptB (Fe.zf (Fe.nB b)).val (Fe.zf (Fe.gX (Fe.nB b) (Fe.odB b))).val j) b = true := by unfold sameB; exact decide_eq_true ⟨rfl, fun j hj => Fe.enc_dec hr hok j hj⟩
    rw [e] at h
    exact h
  obtain ⟨x, hx⟩ : ∃ x, Fe.zf (Fe.gX (Fe.nB b) (Fe.odB b)) = x := ⟨_, rfl⟩
  obtain ⟨y, hy⟩ : ∃ y, Fe.zf (Fe.nB b) = y := ⟨_, rfl⟩
  obtain ⟨A, hA⟩ : ∃ A, Fe.gX (Fe.nB b) (Fe.odB b) = A := ⟨_, rfl⟩
  obtain ⟨B, hB⟩ : ∃ B, Fe.nB b = B := ⟨_, rfl⟩
  obtain ⟨C, hC⟩ : ∃ C, 1 = C := ⟨_, rfl⟩
  rw [hx, hy] at hra hGt hSame
  rw [hA, hB, hC] at hra
  rw [hA, hB, hC] at hRd
  replace hL := Lib.hid hL
  replace hKp := Lib.hid hKp
  replace hRd := Lib.hid hRd
  have hR0 := Lib.hid hra
  replace hGt := Lib.hid hGt
  replace hSame := Lib.hid hSame
  replace hCv := Lib.hid hCv
  clear hS hr hg hc hok hx hy hA hB hC hra
  go_enter Tryd.func3, Tryd.ntmps3
  go_wp2_with fail
  refine (awake4_c w hCv.out).mono ?_
  rintro e w1 ⟨rfl, hb0⟩
  go_wp2_with fail
  refine (hL.out w1 hb0).mono ?_
  rintro e w2 ⟨g2, rfl, hg2, hL2, hb⟩
  replace hb0 := hb0.trans (hb.mono hb0.size)
  replace hL2 := Lib.hid hL2
  clear hb hg2 hL
  go_wp2_with fail
  refine (hGt.out w2 g2 hL2.out (hCv.out.below hb0 hCv.out.lt)).mono ?_
  rintro e w3 ⟨X, Y, Z, T, rfl, hE, hb⟩
  replace hb0 := hb0.trans (hb.mono hb0.size)
  replace hL2 := Lib.hid (hL2.out.below hb)
  replace hE := Lib.hid hE
  clear hb hGt
  have LO := hb0.size
  have L2 := hL2.out.lt
  go_wp2_with (refine stPt rfl rfl rfl rfl (Blk.new _ _ _) rfl rfl (by kernel_rfl) ?_; intro w4 k4 hgr hsz; replace hL2 := Lib.hid ((hL2.out.below ((Below.refl _ _).alloc (Nat.le_refl _) _)).grown hgr (fun h => by injection h with h; omega)); replace hb0 := (hb0.alloc hb0.size _).grown hgr (Nat.le_trans hb0.size (by simp)) (fun k hk => by injection hk with hk; omega); clear hgr hsz)
  obtain ⟨G4, hG4⟩ : ∃ G, G = w3.heap.size := ⟨_, rfl⟩
  rw [← hG4] at k4 LO ⊢
  clear hG4 L2 LO
  refine (hRd.out w4 hb0).mono ?_
  rintro e w5 ⟨⟨cs, rfl, hs, ho, hcs⟩, hb⟩
  obtain rfl := hcs rfl
  clear hcs hs ho
  replace k4 := k4.below hb
  replace hb0 := hb0.trans (hb.mono hb0.size)
  replace hL2 := Lib.hid (hL2.out.below hb)
  clear hb hRd
  have LO := hb0.size
  have L2 := hL2.out.lt
  have L4 := k4.lt
  go_wp2_with (refine stT rfl rfl rfl rfl (Blk.new _ _ _) rfl ?_; intro w6 k6 hgr hsz; replace k4 := (k4.alloc _).grown hgr (fun h => by injection h with h; omega); replace hL2 := Lib.hid ((hL2.out.below ((Below.refl _ _).alloc (Nat.le_refl _) _)).grown hgr (fun h => by injection h with h; omega)); replace hb0 := (hb0.alloc hb0.size _).grown hgr (Nat.le_trans hb0.size (by simp)) (fun k hk => by injection hk with hk; omega); clear hgr hsz)
  obtain ⟨G6, hG6⟩ : ∃ G, G = w5.heap.size := ⟨_, rfl⟩
  rw [← hG6] at k6 ⊢
  clear hG6 L2 L4 LO
  refine (hKp.out w6 g2 hL2.out hb0).mono ?_
  rintro e w7 ⟨rfl, hb⟩
  replace k4 := k4.below hb
  replace k6 := k6.below hb
  replace hb0 := hb0.trans (hb.mono hb0.size)
  clear hb hKp hL2
  go_wp2_with (refine ldPt rfl rfl rfl k4 rfl ?_)
  refine (pput_c w7 hE.out).mono ?_
  rintro e w9 ⟨g5, hg5, rfl, h5, hb⟩
  replace k4 := k4.below hb
  replace k6 := k6.below hb
  replace hb0 := hb0.trans (hb.mono hb0.size)
  replace h5 := Lib.hid h5
  clear hb hg5
  have hC9 := hCv.out.below hb0 hCv.out.lt
  go_wp2
  refine wp_region_grow2 20 (fun k => Nat.beq k 2 || (Nat.ble 42 k && Nat.ble k 60)) _ [] (fun j x' q => (gt13L x y g o c g5).getD j (fun _ _ => True) x' q) (fun _ => false) (fun f => #[.slice (some ⟨g, o, none⟩) 32 c, _, f 2, _, .pointer (some ⟨G4, 0, none⟩), _, .pointer (some ⟨G6, 0, none⟩), _, .slice (some ⟨g5, 0, none⟩) 32 32, _, _, _, _, _, _, _, _, _, _, _, _, _, _, _, _, _, _, _, _, _, _, _, _, _, _, _, _, _, _, _, _, _, f 42, f 43, f 44, f 45, f 46, f 47, f 48, f 49, f 50, f 51, f 52, f 53, f 54, f 55, f 56, f 57, f 58, f 59, f 60]) (fun f => rfl) (by kernel_rfl) (by kernel_rfl) (by kernel_rfl) (by kernel_rfl) (by kernel_rfl) (gt13S _ _ _ _ _ _) (fun _ _ _ h => by cases h) ?_ ?_
  · refine steps2_cons ?_ ?_
    · as_aux_lemma =>
      intro f w1 hb hd Q hK
      clear hd
      have hK := Lib.hid hK
      refine ldPtG (by kernel_rfl) rfl rfl (k4.below hb) ?_
      refine wpList_nil ?_
      exact hK.out _ _ ⟨_, _, _, _, rfl, hE.out⟩ (Below.refl _ _) (fun h => by cases h)
    refine steps2_cons ?_ ?_
    · as_aux_lemma =>
      intro f w1 hb hd Q hK
      obtain ⟨X42, Y42, Z42, T42, e42, h42⟩ := (hd.1 rfl : PqP x y (f 42) w1)
      clear hd
      simp only [e42] at hK
      have hK := Lib.hid hK
      go_wp2_with fail
      refine (pson_c _ h42 (hC9.below hb hC9.lt)).mono ?_
      rintro e w2 ⟨rfl, hb2⟩
      go_wp2
      exact hK.out _ _ rfl hb2 (fun h => by cases h)
    refine steps2_cons ?_ ?_
    · as_aux_lemma =>
      intro f w1 hb hd Q hK
      have e43 : f 43 = .bool true := hd.1 rfl
      clear hd
      simp only [e43] at hK
      have hK := Lib.hid hK
      go_wp2
      exact hK.out _ _ rfl (Below.refl _ _) (fun h => by cases h)
    refine steps2_cons ?_ ?_
    · as_aux_lemma =>
      intro f w1 hb hd Q hK
      have e44 : f 44 = .bool true := hd.1 rfl
      clear hd
      simp only [e44] at hK
      have hK := Lib.hid hK
      go_wp2
      exact hK.out _ _ rfl (Below.refl _ _) (fun h => by cases h)
    refine steps2_cons ?_ ?_
    · as_aux_lemma =>
      intro f w1 hb hd Q hK
      have e44 : f 44 = .bool true := hd.1 rfl
      clear hd
      simp only [e44] at hK
      have hK := Lib.hid hK
      go_wp2
      exact hK.out _ _ rfl (Below.refl _ _) (fun h => by cases h)
    refine steps2_cons ?_ ?_
    · as_aux_lemma =>
      intro f w1 hb hd Q hK
      have e45 : f 45 = .slice (some ⟨g5, 0, none⟩) 32 32 := hd.1 rfl
      have e46 : f 46 = .slice (some ⟨g, o, none⟩) 32 c := hd.2.1 rfl
      have e44 : f 44 = .bool true := hd.2.2.1 rfl
      clear hd
      simp only [e45, e46, e44] at hK
      have hK := Lib.hid hK
      go_wp2_with fail
      refine (hSame.out g5 32 w1 (hb0.trans (hb.mono hb0.size)) (h5.out.below hb)).mono ?_
      rintro e w2 ⟨rfl, hb2⟩
      go_wp2
      exact hK.out _ _ rfl hb2 (fun h => by cases h)
    refine steps2_cons ?_ ?_
    · as_aux_lemma =>
      intro f w1 hb hd Q hK
      have e44 : f 44 = .bool true := hd.1 rfl
      have e47 : f 47 = .bool true := hd.2.1 rfl
      clear hd
      simp only [e44, e47] at hK
      have hK := Lib.hid hK
      go_wp2
      exact hK.out _ _ rfl (Below.refl _ _) (fun h => by cases h)
    refine steps2_cons ?_ ?_
    · as_aux_lemma =>
      intro f w1 hb hd Q hK
      have e48 : f 48 = .bool true := hd.1 rfl
      clear hd
      simp only [e48] at hK
      have hK := Lib.hid hK
      go_wp2
      exact hK.out _ _ rfl (Below.refl _ _) (fun h => by cases h)
    refine steps2_cons ?_ ?_
    · as_aux_lemma =>
      intro f w1 hb hd Q hK
      have e49 : f 49 = .bool true := hd.1 rfl
      clear hd
      simp only [e49] at hK
      have hK := Lib.hid hK
      refine ldTw (by simp only [e49]; kernel_rfl) rfl rfl (k6.below hb) ?_
      refine wpList_nil ?_
      simp only [e49]
      exact hK.out _ _ ⟨_, _, _, rfl, hR0.out⟩ (Below.refl _ _) (fun h => by cases h)
    refine steps2_cons ?_ ?_
    · as_aux_lemma =>
      intro f w1 hb hd Q hK
      obtain ⟨A50, B50, C50, e50, h50⟩ := (hd.1 rfl : RqP x y (f 50) w1)
      have e49 : f 49 = .bool true := hd.2.1 rfl
      clear hd
      simp only [e50, e49] at hK
      have hK := Lib.hid hK
      go_wp2_with fail
      refine (rbytes_c h50 _).mono ?_
      rintro e w2 ⟨g, c, hg, rfl, hR, hb2⟩
      go_wp2
      exact hK.out _ _ ⟨g, c, rfl, hR⟩ hb2 (fun h => by cases h)
    refine steps2_cons ?_ ?_
    · as_aux_lemma =>
      intro f w1 hb hd Q hK
      have e49 : f 49 = .bool true := hd.1 rfl
      clear hd
      simp only [e49] at hK
      have hK := Lib.hid hK
      go_wp2
      exact hK.out _ _ rfl (Below.refl _ _) (fun h => by cases h)
    refine steps2_cons ?_ ?_
    · as_aux_lemma =>
      intro f w1 hb hd Q hK
      obtain ⟨g51, c51, e51, h51⟩ := (hd.1 rfl : RbQ x y (f 51) w1)
      have e52 : f 52 = .slice (some ⟨g, o, none⟩) 32 c := hd.2.1 rfl
      have e49 : f 49 = .bool true := hd.2.2.2.1 rfl
      clear hd
      simp only [e51, e52, e49] at hK
      have hK := Lib.hid hK
      go_wp2_with fail
      refine (hSame.out g51 c51 w1 (hb0.trans (hb.mono hb0.size)) h51).mono ?_
      rintro e w2 ⟨rfl, hb2⟩
      go_wp2
      exact hK.out _ _ rfl hb2 (fun h => by cases h)
    refine steps2_cons ?_ ?_
    · as_aux_lemma =>
      intro f w1 hb hd Q hK
      have e49 : f 49 = .bool true := hd.1 rfl
      have e53 : f 53 = .bool true := hd.2.1 rfl
      clear hd
      simp only [e49, e53] at hK
      have hK := Lib.hid hK
      go_wp2
      exact hK.out _ _ rfl (Below.refl _ _) (fun h => by cases h)
    refine steps2_cons ?_ ?_
    · as_aux_lemma =>
      intro f w1 hb hd Q hK
      have e54 : f 54 = .bool true := hd.1 rfl
      clear hd
      simp only [e54] at hK
      have hK := Lib.hid hK
      go_wp2
      exact hK.out _ _ rfl (Below.refl _ _) (fun h => by cases h)
    refine steps2_cons ?_ ?_
    · as_aux_lemma =>
      intro f w1 hb hd Q hK
      have e55 : f 55 = .bool true := hd.1 rfl
      clear hd
      simp only [e55] at hK
      have hK := Lib.hid hK
      refine ldPtG (by simp only [e55]; kernel_rfl) rfl rfl (k4.below hb) ?_
      refine wpList_nil ?_
      simp only [e55]
      exact hK.out _ _ ⟨_, _, _, _, rfl, hE.out⟩ (Below.refl _ _) (fun h => by cases h)
    refine steps2_cons ?_ ?_
    · as_aux_lemma =>
      intro f w1 hb hd Q hK
      obtain ⟨X56, Y56, Z56, T56, e56, h56⟩ := (hd.1 rfl : PqP x y (f 56) w1)
      have e55 : f 55 = .bool true := hd.2.1 rfl
      clear hd
      simp only [e56, e55] at hK
      have hK := Lib.hid hK
      go_wp2_with fail
      refine (of_c h56 _).mono ?_
      rintro e w2 ⟨X, Y, Z, rfl, hx, hb2⟩
      go_wp2
      exact hK.out _ _ ⟨X, Y, Z, rfl, hx⟩ hb2 (fun h => by cases h)
    refine steps2_cons ?_ ?_
    · as_aux_lemma =>
      intro f w1 hb hd Q hK
      have e55 : f 55 = .bool true := hd.1 rfl
      clear hd
      simp only [e55] at hK
      have hK := Lib.hid hK
      refine ldTw (by simp only [e55]; kernel_rfl) rfl rfl (k6.below hb) ?_
      refine wpList_nil ?_
      simp only [e55]
      exact hK.out _ _ ⟨_, _, _, rfl, hR0.out⟩ (Below.refl _ _) (fun h => by cases h)
    refine steps2_cons ?_ ?_
    · as_aux_lemma =>
      intro f w1 hb hd Q hK
      obtain ⟨A57, B57, C57, e57, h57⟩ := (hd.1 rfl : RqP x y (f 57) w1)
      obtain ⟨A58, B58, C58, e58, h58⟩ := (hd.2.1 rfl : RqP x y (f 58) w1)
      have e55 : f 55 = .bool true := hd.2.2.2.1 rfl
      clear hd
      simp only [e57, e58, e55] at hK
      have hK := Lib.hid hK
      go_wp2_with fail
      refine (rsameV h57 h58 (same_reflG _ _) _).mono ?_
      rintro e w2 ⟨rfl, hb2⟩
      go_wp2
      exact hK.out _ _ rfl hb2 (fun h => by cases h)
    refine steps2_cons ?_ ?_
    · as_aux_lemma =>
      intro f w1 hb hd Q hK
      have e55 : f 55 = .bool true := hd.1 rfl
      have e59 : f 59 = .bool true := hd.2.1 rfl
      clear hd
      simp only [e55, e59] at hK
      have hK := Lib.hid hK
      go_wp2
      exact hK.out _ _ rfl (Below.refl _ _) (fun h => by cases h)
    refine steps2_cons ?_ ?_
    · as_aux_lemma =>
      intro f w1 hb hd Q hK
      have e60 : f 60 = .bool true := hd.1 rfl
      clear hd
      simp only [e60] at hK
      have hK := Lib.hid hK
      go_wp2
      exact hK.out _ _ rfl (Below.refl _ _) (fun h => by cases h)
    trivial
  · intro f9 w10 hb hf hne
    refine wpList_nil ?_
    have d2 : f9 2 = .bool true := hf 19 _ _ (by decide) rfl rfl
    clear hf hne
    simp only [d2]
    have hP := Lib.hid (hb0.trans (hb.mono hb0.size))
    clear d2 hC9 hb hb0 k4 k6 h5
    go_wp2
    go_returns
    exact ⟨rfl, hP.out⟩
end Go.Proofs.YtpaldgajkhmhbaaDoor

namespace Go.Proofs.YtpaldgajkhmhbaaDoor
open Go.ChangeShapes Go.WideShapes Go.ChangeAt Go.WideMaps Go.WideElems Go.RowKit
section
variable {H : Type} {enc : TypeId × Value → H} {W : World}
set_option maxRecDepth 100000 in
/-- an argument of bytes is opened: nil, empty, or cells -/
theorem open_sb {base : Nat} {r : Reach} {b0 : Nat} {v : Value} {d : DataW H} {ps : List MemPlace} (hv : Value.okWide Tryd.prog W r b0 22 v) (h : DataW.Trod enc Tryd.prog W base (fun _ => true) true 22 v d ps) :
    ∃ p n c b, v = .slice p n c ∧ (∀ j, 0 ≤ b j ∧ b j < 256) ∧ SAt W p n c b := by
  obtain ⟨a1, len, cap, rfl⟩ := okWide_slice bs_underK hv
  obtain ⟨fuel, hf⟩ := h
  rcases open_ints bs_underK u8_under u8_cells hf with ⟨hcs, hx⟩ | ⟨a, len', cap', zs, hcs, _, hl, hm, hz, hx, hcell, hwz⟩
  · simp [Value.cells] at hcs
    obtain ⟨rfl, rfl, rfl⟩ := hcs
    exact ⟨none, 0, 0, fun _ => 0, rfl, fun _ => ⟨Int.le_refl _, show (0 : Int) < 256 by decide⟩, .inl ⟨rfl, rfl, rfl⟩⟩
  · simp [Value.cells] at hcs
    obtain ⟨rfl, rfl, rfl⟩ := hcs
    simp only [if_true] at hz
    refine ⟨some a, len, cap, fun j => zs.getD j 0, rfl, fun j => by
      have := range_u8 hwz j
      show 0 ≤ zs.getD j 0 ∧ zs.getD j 0 < 256
      rw [List.getD_eq_getElem?_getD]
      omega, ?_⟩
    by_cases hc0 : cap = 0
    · exact .inr (.inl ⟨a, rfl, by omega, hc0⟩)
    obtain ⟨ab, ao, spot⟩ := a
    have hc1 := hcell 0 (by omega)
    have hspot : spot = none := by simpa [Addr.add] using World.cell?_spot hc1
    subst hspot
    refine .inr (.inr ⟨ab, ao, rfl, ?_, fun j hj => ?_⟩)
    · rcases Nat.lt_or_ge ab W.heap.size with h | h
      · exact h
      · rw [add_o] at hc1
        simp only [World.cell?, Array.getElem?_eq_none h] at hc1
        cases hc1
    · have := hcell j (by omega)
      rwa [add_o] at this
end
set_option maxRecDepth 20000 in
set_option maxHeartbeats 4000000 in
theorem gets_long (p : Option Addr) (n c : Nat) (h : (100 : Int) < n) (w : World) (hCv : CvP w) : Calls Tryd.prog 3 #[.slice p n c] w fun e w' => e = .returned (.bool true) ∧ Below w.heap.size w w' := by
  replace hCv := Lib.hid hCv
  go_enter Tryd.func3, Tryd.ntmps3
  go_wp2_with fail
  refine (awake4_c w hCv.out).mono ?_
  rintro e w1 ⟨rfl, hb0⟩
  replace hb0 := Lib.hid hb0
  go_wp2
  go_returns
  exact ⟨rfl, hb0.out⟩
theorem gets_any (p : Option Addr) (n c : Nat) (b : Nat → Int) (hr : ∀ j, 0 ≤ b j ∧ b j < 256) (w : World) (hS : SAt w p n c b) (hCv : CvP w) : Calls Tryd.prog 3 #[.slice p n c] w fun e w' => e = .returned (.bool true) ∧ Below w.heap.size w w' := by
  by_cases h1 : n ≤ 100
  · have hL := fun w' (hb : Below w.heap.size w w') => lentB_c p n c b (by omega) w' (hS.below hb)
    have hK := fun w' g' (hR : RowB w' g' (n + 12) (n + 12) (lentF n b)) (hb : Below w.heap.size w w') => keptB_c g' p n c b (by omega) w' (hS.below hb) hR
    by_cases h2 : n = 32
    · subst h2
      obtain ⟨g, o, rfl, hg, hc⟩ := hS.bat (by decide)
      cases hok : Fe.okB b
      · refine egets_F _ 32 c b (by decide) w hCv hL (fun w' g' hR hC => getn_c g' 0 (32 + 12) b hr w' hR.lt (fun j hj => by rw [Nat.zero_add, hR.cell j (by omega)]; unfold lentF; rw [if_pos hj]) hC hok) (fun w' hb => ?_) hK
        have h := rread_c g o c b hr w' (Nat.lt_of_lt_of_le hg hb.size) (fun j hj => (hb.cell (p := ⟨g, o + j, none⟩) hg).trans (hc j hj))
        rw [hok] at h
        refine h.mono ?_
        rintro e w' ⟨⟨cs, he, hs, ho, _⟩, hb⟩
        exact ⟨⟨cs, he, hs, ho, fun q => by cases q⟩, hb⟩
      · exact egets_T g o c b hr w hCv hg hc hok
    · exact egets_F p n c b h1 w hCv hL (fun w' g' _ _ => getx_c _ n _ h2 w') (fun w' _ => rread_x p n c h2 _ _ _ w') hK
  · exact gets_long p n c (by omega) w hCv
set_option maxRecDepth 100000 in
theorem edwardsGets_lifted (os : Os) (started : os.Started) (H : Type) (enc : TypeId × Value → H) :
    ReturnsInHanded {} Tryd.checked os 3 .any (fun w args => (Rows.edwardsGetsSpec.pre enc Tryd.prog Tryd.f3 [] false w args ∧ laidMetH Tryd.prog laidE w) ∧ sizedMet enc Tryd.prog Tryd.f3 (OpenSpec.ofChange Rows.edwardsGetsSpec) false w args)
      (Rows.edwardsGetsSpec.post enc Tryd.prog Tryd.f3 false true false false) := by
  refine returnsInHanded_of_change_and (C := Tryd.checked) (X := fun w _ => laidMetH Tryd.prog laidE w) (fun _ _ _ hh h => h.of_heap hh) own_ started (by kernel_rfl) Tryd.func3
    (ChangeSpec.witness_shaped (enc := enc) (C := Tryd.checked) (os := os) (X := fun w _ => laidMetH Tryd.prog laidE w) false (World.doorLaid Tryd.prog 400 os) #[.slice none 0 0] 8 rfl (World.shaped_of_RefB (by kernel_rfl) (by kernel_rfl)) (by kernel_rfl) (by kernel_rfl) (by kernel_rfl) (door_met os _)) ?_
  intro W base args ds gs before hval0 hW _ _ hL _
  have hval : ∀ (j : Nat) t v, Tryd.f3.params[j]? = some t → args[j]? = some v → Value.okWide Tryd.prog W .any base t v := hval0
  have hW' := hW
  obtain ⟨p, q, hA0, hV, rfl, hfz, hnd⟩ := hW
  have hA : DataW.TrodAll enc Tryd.prog W 0 (fun _ => true) true Tryd.f3.params.toList args.toList ds p := hA0
  rw [Tryd.params3] at hA hval
  obtain ⟨v0, d0, rfl, rfl, h0⟩ := trodAll_one hA
  obtain ⟨rfl, rfl⟩ := trodVars_none hV
  have hv0 := hval 0 22 v0 rfl rfl
  clear hA0 hval0
  simp only [List.append_nil] at hW'
  have hCv := of_laid hL
  have hlt : ∀ x ∈ p, x.block < W.heap.size := fun x hx => hW'.lt x hx
  obtain ⟨q1, n1, c1, b1, rfl, hr1, hS1⟩ := open_sb hv0 h0
  clear hv0
  refine (gets_any q1 n1 c1 b1 hr1 W hS1 hCv).mono fun e W' ⟨he, hb⟩ => ?_
  subst he
  exact ⟨_, rfl, post_of_below (pa := p) (pv := []) hW' (fun _ _ _ => trodAll_mk1 (shut_bool bool_under true))
    (fun sp hsp => trodAll_mk1 (WideElems.Trod_stays (by kernel_rfl) (by kernel_rfl) (of_decide_eq_true (by kernel_rfl)) h0 (fun x hx => hb.same (hlt x hx)) (fun x hx => hsp x (by simpa using hx))))
    (fun _ _ => rfl) (by simp) hb
    (ok_one (by kernel_rfl) rfl (okWide_bool_mk bool_under true))⟩
theorem edwardsGets_row : Rows.EdwardsGetsSaid :=
  OpenClaim.holds_of_wide 3 Tryd.f3 rfl rfl rfl rfl rfl rfl rfl ⟨rfl, rfl, rfl, rfl, rfl⟩ rfl rfl rfl rfl rfl (by kernel_rfl) Tryd.func3 (by kernel_rfl)
    (of_decide_eq_true (by kernel_rfl)) (by unfold Func.isWrapper; first | (rw [if_pos (by decide +kernel)]; kernel_rfl) | (rw [if_neg (by decide +kernel)]; exact ⟨rfl, rfl⟩))
    (fun os started H enc _ => edwardsGets_lifted os started H enc)
theorem edwardsGets_holds : Rows.EdwardsGetsCardSaid :=
  Claim7.holds_tied_plain_at .later [] [.data, .data] true (true, "6e129b5b755843fca1c9938d877822f84d8e150055241bfa7f0a4cfcf7dc7d77") false
    edwardsGets_row (fun _ h => by cases h) (by kernel_rfl) (fun _ h => by cases h) edwardsGets_row_tie rfl ⟨rfl, rfl⟩ (by kernel_rfl) rfl
    (fun f fn hf hfn => by
      obtain rfl : f = 3 := Option.some.inj ((show Tryd.prog.funcNamed "buttress/buttresslaw04.EdwardsGets" = some 3 by kernel_rfl).symm.trans hf) |>.symm
      obtain rfl : fn = Tryd.f3 := (Option.some.inj (Tryd.func3.symm.trans hfn)).symm
      exact ⟨by kernel_rfl, fun j t ht => by
        rw [Tryd.params3] at ht
        have hm : t ∈ [22] := by simpa using Array.mem_of_getElem? ht
        have hall : ([22].all fun u => !Tryd.prog.wantsStandIn u) = true := by kernel_rfl
        exact (show Tryd.prog.wantsStandIn t = false by simpa using List.all_eq_true.1 hall t hm)⟩)
    (by kernel_rfl)
end Go.Proofs.YtpaldgajkhmhbaaDoor
