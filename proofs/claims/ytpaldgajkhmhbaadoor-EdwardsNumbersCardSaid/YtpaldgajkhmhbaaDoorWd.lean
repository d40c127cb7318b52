/- LentBytes and KeptBytes of any slice of bytes. The walk of the reference's Read. What the reference reads of bytes. The walks of the reference's Mul and the law's bits. The walk of edwards.Mul for bytes of another length than 32: it is Zero. The walk of edwards.Both; what it answers is a sum of two multiples. The walk of the reference's Base; multiples by any bytes. The walk of the law EdwardsMul. -/
import Derived.Test.YtpaldgajkhmhbaaDoorKd
import Derived.Test.YtpaldgajkhmhbaaDoorZd
import Derived.Test.YtpaldgajkhmhbaaDoorWa
import Derived.Test.YtpaldgajkhmhbaaDoorEm
import Derived.Test.YtpaldgajkhmhbaaDoorZb
import Derived.Lib.AppendZeros
namespace Go.Proofs.YtpaldgajkhmhbaaDoor
open Go.RowKit
theorem kdrewN {B : Nat} {a w : World} (h : Below B a w) (n : Nat) : Below B a (w.drewN n) := h.trans ⟨rfl, rfl, rfl, Nat.le_refl _, fun _ _ => rfl⟩
set_option maxRecDepth 20000 in
set_option maxRecDepth 20000 in
set_option maxHeartbeats 2000000 in
theorem keptBytes_s (g0 g o n c : Nat) (b : Nat → Int) (hn : n ≤ 1000000) (w : World) (hR : RowB w g0 (n + 12) (n + 12) (lentF n b)) (hg : g < w.heap.size) (hc : ∀ j, j < n → w.cell? ⟨g, o + j, none⟩ = some (.int .u8 (b j))) :
    Calls Tryd.prog 15 #[.slice (some ⟨g0, 0, none⟩) n (n + 12), .slice (some ⟨g, o, none⟩) n c] w fun e w' => e = .returned (.bool true) ∧ Below w.heap.size w w' := by
  have hl : ∀ j, j < n → lentF n b j = b j := fun j hj => by unfold lentF; rw [if_pos hj]
  have hm : ∀ k : Nat, lentF n b (n + k) = mb 1 k := fun k => by unfold lentF; rw [if_neg (by omega), Nat.add_sub_cancel_left]
  generalize lentF n b = L at *
  have hcR := hR.cell
  replace hl := Lib.hid hl
  replace hm := Lib.hid hm
  replace hc := Lib.hid hc
  replace hcR := Lib.hid hcR
  have hRlt := hR.lt
  clear hR
  have hn0 : (0 : Int) ≤ (n : Int) := by omega
  have hn1 : (n : Int) ≤ 1000000 := by omega
  go_enter Tryd.func15, Tryd.ntmps15
  go_wp2
  go_loopw [6] (fun i wr => ∃ k : Nat, k ≤ n + 12 ∧ i = .int .i64 k ∧ Below w.heap.size w wr) (fun i _ => (n + 12 - intOf i).toNat)
  case atStart => exact ⟨0, by omega, rfl, Below.refl _ _⟩
  case round =>
    obtain ⟨k, hk, hi', hb⟩ := hrel
    subst hi'
    have hk0 : (0 : Int) ≤ (k : Int) := by omega
    by_cases hend : k = n + 12
    · have hk1 : (k : Int) = (n : Int) + 12 := by omega
      subst hend
      go_wp2
      go_returns
      exact ⟨rfl, hb⟩
    have hk1 : (k : Int) < (n : Int) + 12 := by omega
    have cR := (hb.cell (p := ⟨g0, k, none⟩) hRlt).trans (hcR.out k (by omega))
    by_cases hkn : k < n
    · have hkn1 : (k : Int) < (n : Int) := by omega
      have hkn2 : decide ((k : Int) < (n : Int)) = true := decide_eq_true hkn1
      have hkn3 : decide (n ≤ k) = false := decide_eq_false (by omega)
      have cc := (hb.cell (p := ⟨g, o + k, none⟩) hg).trans (hc.out k hkn)
      rw [hl.out k hkn] at cR
      have hx : (b k == b k) = true := beq_self_eq_true _
      clear hk hend
      go_wp2
      go_quiet (fail)
      go_wp2
      exact ⟨⟨k + 1, by omega, by rw [Int.natCast_add]; rfl, hb.trans (kdrewN (Below.refl _ _) _)⟩, by simp [intOf]; omega⟩
    have hkn1 : (n : Int) ≤ (k : Int) := by omega
    obtain ⟨i, hi⟩ : ∃ i, k = n + i := ⟨k - n, by omega⟩
    have hi1 : (k : Int) - (n : Int) = (i : Int) := by omega
    have hi2 : (i : Int) < 12 := by omega
    have hi3 : (0 : Int) ≤ (i : Int) := by omega
    have hi4 : i < 12 := by omega
    have hkn2 : decide (k < n) = false := decide_eq_false (by omega)
    have hkn3 : decide (n ≤ k) = true := decide_eq_true (by omega)
    have hmk := hm.out i
    rw [← hi] at hmk
    rw [hmk] at cR
    have hmc : ∀ q, Calls Tryd.prog 55 #[.int .i64 1, .int .i64 i] (wr.drewN q) fun e w'' => e = .returned (.int .u8 (mb 1 i)) ∧ ∃ m, w'' = wr.drewN m := fun q => (markByte_c 1 i (by omega) (by omega) _).mono fun _ _ h => ⟨h.1, q, h.2.symm⟩
    have hx : (mb 1 i == mb 1 i) = true := beq_self_eq_true _
    replace hmc := Lib.hid hmc
    clear hk hend hi hmk
    generalize mb 1 (i : Int) = x at *
    go_wp2
    go_quiet (first | (exact hmc.out _))
    go_wp2
    exact ⟨⟨k + 1, by omega, by rw [Int.natCast_add]; rfl, hb.trans (kdrewN (Below.refl _ _) _)⟩, by simp [intOf]; omega⟩
set_option maxRecDepth 20000 in
set_option maxRecDepth 20000 in
set_option maxHeartbeats 2000000 in
theorem keptBytes_0 (g0 : Nat) (b : Nat → Int) (w : World) (hR : RowB w g0 12 12 (lentF 0 b)) :
    Calls Tryd.prog 15 #[.slice (some ⟨g0, 0, none⟩) 0 12, .slice none 0 0] w fun e w' => e = .returned (.bool true) ∧ Below w.heap.size w w' := by
  have hm : ∀ k : Nat, lentF 0 b k = mb 1 k := fun k => by unfold lentF; rw [if_neg (by omega), Nat.sub_zero]
  generalize lentF 0 b = L at *
  have hcR := hR.cell
  replace hm := Lib.hid hm
  replace hcR := Lib.hid hcR
  have hRlt := hR.lt
  clear hR
  go_enter Tryd.func15, Tryd.ntmps15
  go_wp2
  go_loopw [6] (fun i wr => ∃ k : Nat, k ≤ 12 ∧ i = .int .i64 k ∧ Below w.heap.size w wr) (fun i _ => (12 - intOf i).toNat)
  case atStart => exact ⟨0, by omega, rfl, Below.refl _ _⟩
  case round =>
    obtain ⟨k, hk, hi', hb⟩ := hrel
    subst hi'
    have hk0 : (0 : Int) ≤ (k : Int) := by omega
    by_cases hend : k = 12
    · have hk1 : (k : Int) = 12 := by omega
      subst hend
      go_wp2
      go_returns
      exact ⟨rfl, hb⟩
    have hk1 : (k : Int) < 12 := by omega
    have hk2 : k < 12 := by omega
    have cR := (hb.cell (p := ⟨g0, k, none⟩) hRlt).trans (hcR.out k (by omega))
    rw [hm.out k] at cR
    have hmc : ∀ q, Calls Tryd.prog 55 #[.int .i64 1, .int .i64 k] (wr.drewN q) fun e w'' => e = .returned (.int .u8 (mb 1 k)) ∧ ∃ m, w'' = wr.drewN m := fun q => (markByte_c 1 k (by omega) (by omega) _).mono fun _ _ h => ⟨h.1, q, h.2.symm⟩
    have hx : (mb 1 k == mb 1 k) = true := beq_self_eq_true _
    replace hmc := Lib.hid hmc
    have hkn2 : decide ((k : Int) < 0) = false := decide_eq_false (by omega)
    have hkn3 : decide ((0 : Int) ≤ (k : Int)) = true := decide_eq_true hk0
    clear hk hend
    generalize mb 1 (k : Int) = x at *
    go_wp2
    go_quiet (first | (exact hmc.out _))
    go_wp2
    exact ⟨⟨k + 1, by omega, by rw [Int.natCast_add]; rfl, hb.trans (kdrewN (Below.refl _ _) _)⟩, by simp [intOf]; omega⟩
set_option maxRecDepth 20000 in
set_option maxRecDepth 20000 in
set_option maxHeartbeats 2000000 in
theorem lentBytes_e (ad : Addr) (n : Nat) (b : Nat → Int) (hn : n = 0) (w : World) :
    Calls Tryd.prog 12 #[.slice (some ad) 0 0] w (PostLent n b w) := by
  have hfin : ∀ w', RowB w' w.heap.size (n + 12) (n + 12) (lentF n b) → Below w.heap.size w w' → PostLent n b w (.returned (.slice (some ⟨w.heap.size, 0, none⟩) n (n + 12))) w' := fun w' h1 h2 => ⟨_, rfl, Nat.le_refl _, h1, h2⟩
  have hl : ∀ j, j < n → lentF n b j = b j := fun j hj => by unfold lentF; rw [if_pos hj]
  have hm : ∀ k : Nat, lentF n b (n + k) = mb 1 k := fun k => by unfold lentF; rw [if_neg (by omega), Nat.add_sub_cancel_left]
  generalize lentF n b = L at *
  subst hn
  obtain ⟨i0, hi, hz0, hz1, hz2⟩ := info_parts u8_infoK
  replace hfin := Lib.hid hfin
  replace hl := Lib.hid hl
  replace hm : ∀ k : Nat, L k = mb 1 k := fun k => by have := hm k; rwa [Nat.zero_add] at this
  replace hm := Lib.hid hm
  replace hz1 := Lib.hid hz1
  replace hz2 := Lib.hid hz2
  replace hz0 := Lib.hid hz0
  replace hi := Lib.hid hi
  go_enter Tryd.func12, Tryd.ntmps12
  go_wp2_with (first
    | (refine wpList_make_own _ rfl _ _ 22 rfl w.heap.size 5 i0 (.int .u8 0) 1 bs_underK hi.out hz0.out hz1.out .i64 .i64 _ 12 rfl rfl (by omega) (by rw [hz2.out]; omega) (by unfold maxLen; omega) (Nat.le_refl _) ?_; intro w1 hO1 hgr1; have hR1 : RowB w1 w.heap.size 0 12 (fun _ => 0) := rowB_of hO1; have hb1 : Below w.heap.size w w1 := (Below.refl _ _).grown hgr1 (Nat.le_refl _) (fun k hk => by cases hk); clear hgr1 hO1)
    | (refine wpList_app rfl rfl rfl hR1 rfl L (fun i hi => absurd hi (by omega)) (fun j hj => absurd hj (by omega)) (by omega) ?_; intro g2 c2 w2 hR2 hgr2 hcase2; have hg2 : g2 = w.heap.size ∧ c2 = 12 := (by rcases hcase2 with h | h; exact ⟨h.1, h.2.1⟩; omega); obtain ⟨hg2a, hg2b⟩ := hg2; subst hg2a hg2b; have hb2 : Below w.heap.size w w2 := hb1.grown hgr2 hb1.size (fun k hk => by injection hk; omega); clear hgr2 hcase2 hR1 hb1))
  go_loopw [3, 4] (fun v i wr => ∃ k : Nat, k ≤ 12 ∧ i = .int .i64 k ∧ v = .slice (some ⟨w.heap.size, 0, none⟩) k 12 ∧ RowB wr w.heap.size k 12 L ∧ Below w.heap.size w wr) (fun _ i _ => (12 - intOf i).toNat)
  case atStart => exact ⟨0, by decide, rfl, rfl, hR2, hb2⟩
  case round =>
    clear hR2 hb2
    obtain ⟨k, hk, hi', hv, hR, hb⟩ := hrel
    subst hi' hv
    by_cases h12 : k = 12
    · subst h12
      have hP := Lib.hid (hfin.out wr hR hb)
      clear hk hR hb
      go_wp2
      go_returns
      exact hP.out
    have hk0 : (0 : Int) ≤ (k : Int) := by omega
    have hk1 : (k : Int) < 12 := by omega
    have hmk := hm.out k
    clear hk h12
    go_wp2_with fail
    refine (markByte_c 1 k (by omega) (by omega) _).mono ?_
    rintro e w3 ⟨rfl, rfl⟩
    have hRa : RowB (wr.alloc (Obj.cells #[.int .u8 (mb 1 k)] 5)) w.heap.size k 12 L := hR.below ((Below.refl _ _).alloc (Nat.le_refl _) _)
    have hba : Below w.heap.size w (wr.alloc (Obj.cells #[.int .u8 (mb 1 k)] 5)) := hb.alloc hb.size _
    have hca : ∀ j, j < 1 → (wr.alloc (Obj.cells #[.int .u8 (mb 1 k)] 5)).cell? ((⟨wr.heap.size, 0, none⟩ : Addr).add j) = some (.int .u8 (L (k + j))) := fun j hj => by
      obtain rfl : j = 0 := by omega
      rw [add_o, show k + 0 = k from rfl, hmk]
      exact (Blk.new wr _ _).cell 0
    replace hmk := Lib.hid hmk
    generalize mb 1 k = x at *
    clear hR hb
    go_wp2_with (refine wpList_app rfl rfl rfl hRa rfl L (fun i hi => rfl) hca (by omega) ?_; intro g2 c2 w4 hR4 hgr4 hcase4; have hg4 : g2 = w.heap.size ∧ c2 = 12 := (by rcases hcase4 with h | h; exact ⟨h.1, h.2.1⟩; omega); obtain ⟨hg4a, hg4b⟩ := hg4; subst hg4a hg4b; have hb4 : Below w.heap.size w w4 := hba.grown hgr4 hba.size (fun k hk => by injection hk; omega); clear hgr4 hcase4 hca hRa hba)
    exact ⟨⟨k + 1, by omega, rfl, rfl, hR4, hb4⟩, by simp [intOf]; omega⟩

set_option maxRecDepth 20000 in
set_option maxRecDepth 20000 in
set_option maxHeartbeats 2000000 in
theorem keptBytes_e (ad : Addr) (g0 : Nat) (b : Nat → Int) (w : World) (hR : RowB w g0 12 12 (lentF 0 b)) :
    Calls Tryd.prog 15 #[.slice (some ⟨g0, 0, none⟩) 0 12, .slice (some ad) 0 0] w fun e w' => e = .returned (.bool true) ∧ Below w.heap.size w w' := by
  have hm : ∀ k : Nat, lentF 0 b k = mb 1 k := fun k => by unfold lentF; rw [if_neg (by omega), Nat.sub_zero]
  generalize lentF 0 b = L at *
  have hcR := hR.cell
  replace hm := Lib.hid hm
  replace hcR := Lib.hid hcR
  have hRlt := hR.lt
  clear hR
  go_enter Tryd.func15, Tryd.ntmps15
  go_wp2
  go_loopw [6] (fun i wr => ∃ k : Nat, k ≤ 12 ∧ i = .int .i64 k ∧ Below w.heap.size w wr) (fun i _ => (12 - intOf i).toNat)
  case atStart => exact ⟨0, by omega, rfl, Below.refl _ _⟩
  case round =>
    obtain ⟨k, hk, hi', hb⟩ := hrel
    subst hi'
    have hk0 : (0 : Int) ≤ (k : Int) := by omega
    by_cases hend : k = 12
    · have hk1 : (k : Int) = 12 := by omega
      subst hend
      go_wp2
      go_returns
      exact ⟨rfl, hb⟩
    have hk1 : (k : Int) < 12 := by omega
    have hk2 : k < 12 := by omega
    have cR := (hb.cell (p := ⟨g0, k, none⟩) hRlt).trans (hcR.out k (by omega))
    rw [hm.out k] at cR
    have hmc : ∀ q, Calls Tryd.prog 55 #[.int .i64 1, .int .i64 k] (wr.drewN q) fun e w'' => e = .returned (.int .u8 (mb 1 k)) ∧ ∃ m, w'' = wr.drewN m := fun q => (markByte_c 1 k (by omega) (by omega) _).mono fun _ _ h => ⟨h.1, q, h.2.symm⟩
    have hx : (mb 1 k == mb 1 k) = true := beq_self_eq_true _
    replace hmc := Lib.hid hmc
    have hkn2 : decide ((k : Int) < 0) = false := decide_eq_false (by omega)
    have hkn3 : decide ((0 : Int) ≤ (k : Int)) = true := decide_eq_true hk0
    clear hk hend
    generalize mb 1 (k : Int) = x at *
    go_wp2
    go_quiet (first | (exact hmc.out _))
    go_wp2
    exact ⟨⟨k + 1, by omega, by rw [Int.natCast_add]; rfl, hb.trans (kdrewN (Below.refl _ _) _)⟩, by simp [intOf]; omega⟩
/-- a slice of n bytes: nil, empty, or in a block of cells -/
def SAt (w : World) (p : Option Addr) (n c : Nat) (b : Nat → Int) : Prop := (p = none ∧ n = 0 ∧ c = 0) ∨ (∃ ad, p = some ad ∧ n = 0 ∧ c = 0) ∨ (∃ g o, p = some ⟨g, o, none⟩ ∧ g < w.heap.size ∧ ∀ j, j < n → w.cell? ⟨g, o + j, none⟩ = some (.int .u8 (b j)))
theorem SAt.below {w w' : World} {p : Option Addr} {n c : Nat} {b : Nat → Int} (h : SAt w p n c b) (hb : Below w.heap.size w w') : SAt w' p n c b := by
  rcases h with h | h | ⟨g, o, e, hg, hc⟩
  · exact .inl h
  · exact .inr (.inl h)
  exact .inr (.inr ⟨g, o, e, Nat.lt_of_lt_of_le hg hb.size, fun j hj => (hb.cell (p := ⟨g, o + j, none⟩) hg).trans (hc j hj)⟩)
theorem SAt.bat {w : World} {p : Option Addr} {n c : Nat} {b : Nat → Int} (h : SAt w p n c b) : BAt w p n b := by
  rcases h with ⟨_, h, _⟩ | ⟨_, _, h, _⟩ | ⟨g, o, e, hg, hc⟩
  · exact fun hn => absurd hn (by omega)
  · exact fun hn => absurd hn (by omega)
  exact fun _ => ⟨g, o, e, hg, hc⟩
theorem lentB_c (p : Option Addr) (n c : Nat) (b : Nat → Int) (hn : n ≤ 1000000) (w : World) (h : SAt w p n c b) : Calls Tryd.prog 12 #[.slice p n c] w (PostLent n b w) := by
  rcases h with ⟨rfl, rfl, rfl⟩ | ⟨ad, rfl, rfl, rfl⟩ | ⟨g, o, rfl, hg, hc⟩
  · exact lentBytes_0 0 b rfl w
  · exact lentBytes_e ad 0 b rfl w
  exact lentBytes_s g o n c b hn w hg hc
theorem keptB_c (g0 : Nat) (p : Option Addr) (n c : Nat) (b : Nat → Int) (hn : n ≤ 1000000) (w : World) (h : SAt w p n c b) (hR : RowB w g0 (n + 12) (n + 12) (lentF n b)) : Calls Tryd.prog 15 #[.slice (some ⟨g0, 0, none⟩) n (n + 12), .slice p n c] w fun e w' => e = .returned (.bool true) ∧ Below w.heap.size w w' := by
  rcases h with ⟨rfl, rfl, rfl⟩ | ⟨ad, rfl, rfl, rfl⟩ | ⟨g, o, rfl, hg, hc⟩
  · exact keptBytes_0 g0 b w hR
  · exact keptBytes_e ad g0 b w hR
  exact keptBytes_s g0 g o n c b hn w hR hg hc
end Go.Proofs.YtpaldgajkhmhbaaDoor

namespace Go.Proofs.YtpaldgajkhmhbaaDoor
open Go.RowKit
theorem stP {ops : Array Oper} {rest : List Oper} {o : Oper} {a : Act} {w : World} {Q : Exit → Act → World → Prop} (hgd : o.guard = none) {x y : Operand} (ho : o.op = .store 35 x y) {g : Nat} {cs old : Array Value} (hx : a.eval x = .pointer (some ⟨g, 0, none⟩)) (hy : a.eval y = .agg cs) (hg : Blk w g 35 old) (hs : old.size = 48) (hc : cs.size = 48) (hone : cs.all (·.oneCell') = true)
    (h : ∀ w', Blk w' g 35 cs → w.grownBy w' (some g) → w'.heap.size = w.heap.size → wpList Tryd.prog ops Q rest (a.put o.dst undef) w') : wpList Tryd.prog ops Q (o :: rest) a w :=
  wpList_store_blk hgd 35 x y ho g 35 old cs hx hy hg (by rw [hs, hc]) (by rw [hc]; exact rp_size) hone h
theorem retT2 {fn : Func} {p q : Tmp} {g : Nat} {tmps : Array Value} {D : List Deferred} {w : World} {R : Ending → World → Prop} {cs : Array Value} {v : Value} (h : fn.results = #[.cell p 35, .tmp q]) (hp : tmps.getD p undef = .pointer (some ⟨g, 0, none⟩)) (hq : tmps.getD q undef = v) (hg : Blk w g 35 cs) (hs : cs.size = 48) (hD : D = []) (hR : R (.returned (.tuple #[.agg cs, v])) w) : bodyPost Tryd.prog fn R .ret ⟨tmps, D⟩ w := by
  obtain ⟨d, hd, hs2⟩ := rp_under
  have hp' : tmps[p]?.getD undef = .pointer (some ⟨g, 0, none⟩) := by simpa using hp
  have hq' : tmps[q]?.getD undef = v := by simpa using hq
  refine bodyPost_ret (v := .tuple #[.agg cs, v]) ?_ hD hR
  simp [results, h, hp', hq', asAddr, run_loadVar_row w g 35 35 cs (0, 0) d hg hd (by revert hs2; cases d <;> exact fun h => h) (by rw [hs]; exact rp_size)]
/-- what Read answers: a pair as cells, and whether it is one -/
def PostRd (v : Bool) (F G H : Nat → Int) (w : World) (e : Ending) (w' : World) : Prop := (∃ cs, e = .returned (.tuple #[.agg cs, .bool v]) ∧ cs.size = 48 ∧ cs.all (·.oneCell') = true ∧ (v = true → cs = tcf F G H)) ∧ Below w.heap.size w w'
def rr10L (YY : Nat → Int) (U : Nat → Int) (XR : Nat → Int) (N1 : Nat → Int) (D : Nat → Int) (DY : Nat → Int) (VV : Nat → Int) (BB : Bool) (B0 : Nat) : List (Value → World → Prop) := [
  Eq1 (.agg (av YY)),
  Eq1 (.agg (av N1)),
  Eq1 (.agg (av U)),
  Eq1 (.agg (av D)),
  Eq1 (.agg (av YY)),
  Eq1 (.agg (av DY)),
  Eq1 (.agg (av N1)),
  Eq1 (.agg (av VV)),
  Eq1 (.tuple #[.agg (av XR), .bool BB]),
  Eq1 (.tuple #[.agg (av XR), .bool BB]),
  Eq1 (.agg (av XR)),
  Eq1 (.bool BB),
  NewB B0 33 #[.int .u64 0, .int .u64 0, .int .u64 0, .int .u64 0, .int .u64 0, .int .u64 0, .int .u64 0, .int .u64 0, .int .u64 0, .int .u64 0, .int .u64 0, .int .u64 0, .int .u64 0, .int .u64 0, .int .u64 0, .int .u64 0]]
theorem rr10S (YY : Nat → Int) (U : Nat → Int) (XR : Nat → Int) (N1 : Nat → Int) (D : Nat → Int) (DY : Nat → Int) (VV : Nat → Int) (BB : Bool) (B0 : Nat) : ∀ j x' q q', (rr10L YY U XR N1 D DY VV BB B0).getD j (fun _ _ => True) x' q → Below q.heap.size q q' → (rr10L YY U XR N1 D DY VV BB B0).getD j (fun _ _ => True) x' q' := by
  refine sta_all _ ?_
  simp only [rr10L, List.mem_cons, forall_eq_or_imp, List.not_mem_nil, false_implies, implies_true, and_true]
  exact ⟨sta_eq _, sta_eq _, sta_eq _, sta_eq _, sta_eq _, sta_eq _, sta_eq _, sta_eq _, sta_eq _, sta_eq _, sta_eq _, sta_eq _, sta_new _ _ _⟩
def rr13L (XR : Nat → Int) (N0 : Nat → Int) (ZB : Bool) : List (Value → World → Prop) := [
  Eq1 (.agg (av XR)),
  Eq1 (.agg (av N0)),
  Eq1 (.bool ZB),
  Eq1 (.bool ZB)]
theorem rr13S (XR : Nat → Int) (N0 : Nat → Int) (ZB : Bool) : ∀ j x' q q', (rr13L XR N0 ZB).getD j (fun _ _ => True) x' q → Below q.heap.size q q' → (rr13L XR N0 ZB).getD j (fun _ _ => True) x' q' := by
  refine sta_all _ ?_
  simp only [rr13L, List.mem_cons, forall_eq_or_imp, List.not_mem_nil, false_implies, implies_true, and_true]
  exact ⟨sta_eq _, sta_eq _, sta_eq _, sta_eq _⟩
def rrF018L (YF : Nat → Int) (XR : Nat → Int) (N1 : Nat → Int) : List (Value → World → Prop) := [
  Eq1 (.agg (av XR)),
  Eq1 (.agg (av YF)),
  Eq1 (.agg (av N1)),
  Eq1 (.agg (tcf XR YF N1))]
theorem rrF018S (YF : Nat → Int) (XR : Nat → Int) (N1 : Nat → Int) : ∀ j x' q q', (rrF018L YF XR N1).getD j (fun _ _ => True) x' q → Below q.heap.size q q' → (rrF018L YF XR N1).getD j (fun _ _ => True) x' q' := by
  refine sta_all _ ?_
  simp only [rrF018L, List.mem_cons, forall_eq_or_imp, List.not_mem_nil, false_implies, implies_true, and_true]
  exact ⟨sta_eq _, sta_eq _, sta_eq _, sta_eq _⟩
def rrF118L (YF : Nat → Int) (XR : Nat → Int) (N1 : Nat → Int) : List (Value → World → Prop) := [
  Eq1 (.agg (av XR)),
  Eq1 (.agg (av YF)),
  Eq1 (.agg (av N1)),
  Eq1 (.agg (tcf XR YF N1))]
theorem rrF118S (YF : Nat → Int) (XR : Nat → Int) (N1 : Nat → Int) : ∀ j x' q q', (rrF118L YF XR N1).getD j (fun _ _ => True) x' q → Below q.heap.size q q' → (rrF118L YF XR N1).getD j (fun _ _ => True) x' q' := by
  refine sta_all _ ?_
  simp only [rrF118L, List.mem_cons, forall_eq_or_imp, List.not_mem_nil, false_implies, implies_true, and_true]
  exact ⟨sta_eq _, sta_eq _, sta_eq _, sta_eq _⟩
def rrT17L (XR : Nat → Int) (XN : Nat → Int) (N0 : Nat → Int) : List (Value → World → Prop) := [
  Eq1 (.agg (av N0)),
  Eq1 (.agg (av XR)),
  Eq1 (.agg (av XN))]
theorem rrT17S (XR : Nat → Int) (XN : Nat → Int) (N0 : Nat → Int) : ∀ j x' q q', (rrT17L XR XN N0).getD j (fun _ _ => True) x' q → Below q.heap.size q q' → (rrT17L XR XN N0).getD j (fun _ _ => True) x' q' := by
  refine sta_all _ ?_
  simp only [rrT17L, List.mem_cons, forall_eq_or_imp, List.not_mem_nil, false_implies, implies_true, and_true]
  exact ⟨sta_eq _, sta_eq _, sta_eq _⟩
def rrT18L (YF : Nat → Int) (XN : Nat → Int) (N1 : Nat → Int) : List (Value → World → Prop) := [
  Eq1 (.agg (av XN)),
  Eq1 (.agg (av YF)),
  Eq1 (.agg (av N1)),
  Eq1 (.agg (tcf XN YF N1))]
theorem rrT18S (YF : Nat → Int) (XN : Nat → Int) (N1 : Nat → Int) : ∀ j x' q q', (rrT18L YF XN N1).getD j (fun _ _ => True) x' q → Below q.heap.size q q' → (rrT18L YF XN N1).getD j (fun _ _ => True) x' q' := by
  refine sta_all _ ?_
  simp only [rrT18L, List.mem_cons, forall_eq_or_imp, List.not_mem_nil, false_implies, implies_true, and_true]
  exact ⟨sta_eq _, sta_eq _, sta_eq _, sta_eq _⟩
set_option maxRecDepth 20000 in
set_option maxHeartbeats 8000000 in
theorem rRead_g {g o c : Nat} {b : Nat → Int} {YF : Nat → Int} {YY : Nat → Int} {U : Nat → Int} {XR : Nat → Int} {XN : Nat → Int} {N1 : Nat → Int} {D : Nat → Int} {DY : Nat → Int} {VV : Nat → Int} {N0 : Nat → Int} {BB : Bool} {ZB : Bool} {od : Bool} {ok : Bool} {XF : Nat → Int} (hr : ∀ j, 0 ≤ b j ∧ b j < 256) (w : World) (hg : g < w.heap.size) (hc : ∀ j, j < 32 → w.cell? ⟨g, o + j, none⟩ = some (.int .u8 (b j)))
    (hod : decide (128 ≤ b 31) = od) (hRd : ∀ (g c : Nat) (w : World), RowB w g 32 c (Fe.clr b) → Calls Tryd.prog 59 #[.slice (some ⟨g, 0, none⟩) 32 c] w (PostR2 YF ok w))
    (cyy : ∀ w, Calls Tryd.prog 60 #[.agg (av YF), .agg (av YF)] w (PostN YY w))
    (c1 : ∀ w, Calls Tryd.prog 63 #[.int .u64 1] w (PostN N1 w))
    (cu : ∀ w, Calls Tryd.prog 62 #[.agg (av YY), .agg (av N1)] w (PostN U w))
    (cd : ∀ w, Calls Tryd.prog 38 #[] w (PostN D w))
    (cdy : ∀ w, Calls Tryd.prog 60 #[.agg (av D), .agg (av YY)] w (PostN DY w))
    (cv : ∀ w, Calls Tryd.prog 64 #[.agg (av DY), .agg (av N1)] w (PostN VV w))
    (crt : ∀ w, Calls Tryd.prog 61 #[.agg (av U), .agg (av VV)] w (PostR2 XR BB w))
    (c0 : ∀ w, Calls Tryd.prog 63 #[.int .u64 0] w (PostN N0 w))
    (cng : ∀ w, Calls Tryd.prog 62 #[.agg (av N0), .agg (av XR)] w (PostN XN w))
    (q1 : eqN XR N0 = ZB)
    (hXF : (if od then XN else XR) = XF)
    : Calls Tryd.prog 14 #[.slice (some ⟨g, o, none⟩) 32 c] w (PostRd (ok && BB && !(od && ZB)) XF YF N1 w) := by
  replace cyy := Lib.hid cyy
  replace c1 := Lib.hid c1
  replace cu := Lib.hid cu
  replace cd := Lib.hid cd
  replace cdy := Lib.hid cdy
  replace cv := Lib.hid cv
  replace crt := Lib.hid crt
  replace c0 := Lib.hid c0
  replace cng := Lib.hid cng
  replace q1 := Lib.hid q1
  replace hXF := Lib.hid hXF
  replace hRd := Lib.hid hRd
  have hR0 : ∀ ob, RowB ((w.alloc ob).alloc (.cells #[] 5)) (w.heap.size + 1) 0 0 b := fun ob => ⟨#[], by have h := heap_alloc_new (w.alloc ob) (.cells #[] 5); rw [World.size_alloc] at h; exact h, Nat.le_refl _, Nat.zero_le _, rfl, rfl⟩
  have hcs : ∀ W : World, Below w.heap.size w W → ∀ j, j < 32 → W.cell? ((⟨g, o, none⟩ : Addr).add j) = some (.int .u8 (b (0 + j))) := fun W hb j hj => by
    rw [add_o, Nat.zero_add]
    exact (hb.cell (p := ⟨g, o + j, none⟩) hg).trans (hc j hj)
  replace hR0 := Lib.hid hR0
  replace hcs := Lib.hid hcs
  have hr31 := hr 31
  have hr0 := Lib.hid hr
  clear hc hg hr
  obtain ⟨B31, hB31⟩ : ∃ B31, B31 = b 31 := ⟨_, rfl⟩
  rw [← hB31] at hr31 hod
  have hq1 : (B31 / 128 == 1) = od := by
    rw [← hod]
    by_cases h : 128 ≤ B31
    · rw [decide_eq_true h]; simp; omega
    rw [decide_eq_false h]; simp; omega
  replace hod := Lib.hid hod
  replace hB31 := Lib.hid hB31
  go_enter Tryd.func14, Tryd.ntmps14
  have hmk : True := trivial
  go_wp2_with (first | (at_builtin; clear hmk; refine wpList_app rfl rfl rfl (hR0.out _) rfl b (fun _ _ => rfl) (hcs.out _ (by go_grown)) (by omega) ?_; intro g2 c2 w2 hR hgr hcase; have hb0 : Below w.heap.size w w2 := Below.grown (by go_grown) hgr (by simp only [World.size_alloc]; omega) (fun k hk => by injection hk with hk; omega); obtain ⟨old, k2, so⟩ : ∃ old, Blk w2 w.heap.size 35 old ∧ old.size = 48 := ⟨_, ((Blk.new _ _ _).alloc _).grown hgr (fun hh => by injection hh with hh; omega), rfl⟩; have lo1 : w.heap.size ≤ g2 := (by rcases hcase with h | h <;> (try simp only [World.size_alloc] at h) <;> omega); have ne2 : g2 ≠ w.heap.size := (by rcases hcase with h | h <;> (try simp only [World.size_alloc] at h) <;> omega); clear hgr hcase hR0 hcs; obtain ⟨G2, hG2⟩ : ∃ G, G = w.heap.size := ⟨_, rfl⟩; rw [← hG2] at k2 ne2 ⊢; have loG2 : w.heap.size ≤ G2 := (by omega); clear hG2; have q31 := hR.cell 31 (by decide); rw [← hB31.out] at q31; have fz := fun i => hR.frozen i; have hRl := hR.lt; replace hR := Lib.hid hR; replace k2 := Lib.hid k2; replace hb0 := Lib.hid hb0))
  refine calls_at (fun W1 hW => ?_)
  have hR1 : RowB W1 g2 32 c2 (Fe.clr b) := by rw [hW]; exact (hR.out.set_ 31 (by decide) (B31 % 128)).congr (fun i hi => by unfold Fe.clr; rw [hB31.out])
  replace hb0 : Below w.heap.size w W1 := by rw [hW]; exact hb0.out.setCell (by show w.heap.size ≤ g2; exact lo1) _
  replace k2 : Blk W1 G2 35 old := by rw [hW]; exact k2.out.far (p := ⟨g2, 31, none⟩) ne2.symm _
  clear hW hR q31 fz hRl ne2 hB31
  refine (hRd.out g2 c2 W1 hR1).mono ?_
  rintro e w3 ⟨rfl, hb⟩
  replace k2 := k2.below hb
  replace hb0 := hb0.trans (hb.mono hb0.size)
  clear hb hRd hR1 hr31 hod
  obtain ⟨OD, hOD⟩ : ∃ OD, OD = B31 / 128 := ⟨_, rfl⟩
  rw [← hOD] at hq1 ⊢
  clear hOD
  have k2lt := k2.lt
  have LO := hb0.size
  cases ok
  · skip
    go_wp2_with (first | (refine stN (f := YF) (old := fun _ => 0) rfl rfl rfl rfl (Blk.new _ _ _) ?_; intro w4 k6 hgr hsz; replace k2 := (k2.alloc _).grown hgr (fun hh => by injection hh with hh; omega); replace hb0 := (hb0.alloc hb0.size _).grown hgr (Nat.le_trans hb0.size (by simp)) (fun k hk => by injection hk with hk; omega); clear hgr hsz) | (refine stP rfl rfl rfl rfl k2 so rfl (by kernel_rfl) ?_; intro w5 m2 hgr hsz))
    exact retT2 rfl rfl rfl m2 rfl rfl ⟨⟨_, rfl, rfl, by kernel_rfl, fun h => by simp at h⟩, hb0.grown hgr hb0.size (fun k hk => by injection hk with hk; omega)⟩
  · skip
    go_wp2_with (first | (refine stN (f := YF) (old := fun _ => 0) rfl rfl rfl rfl (Blk.new _ _ _) ?_; intro w4 k6 hgr hsz; replace k2 := (k2.alloc _).grown hgr (fun hh => by injection hh with hh; omega); replace hb0 := (hb0.alloc hb0.size _).grown hgr (Nat.le_trans hb0.size (by simp)) (fun k hk => by injection hk with hk; omega); clear hgr hsz) | (refine ldNw (by kernel_rfl) rfl rfl k6 ?_))
    have nG2_6 : G2 ≠ w3.heap.size := by omega
    obtain ⟨G6, hG6⟩ : ∃ G, G = w3.heap.size := ⟨_, rfl⟩
    rw [← hG6] at k6 LO nG2_6 ⊢
    have lo6 := LO
    clear hG6 LO k2lt
    refine (cyy.out _).mono ?_
    rintro e w6 ⟨rfl, hb⟩
    replace k2 := k2.below hb
    replace k6 := k6.below hb
    replace hb0 := hb0.trans (hb.mono hb0.size)
    clear hb
    have k2lt := k2.lt
    have k6lt := k6.lt
    have LO := hb0.size
    go_wp2_with (refine stN (f := YY) (old := fun _ => 0) rfl rfl rfl rfl (Blk.new _ _ _) ?_; intro w7 k8 hgr hsz; replace k2 := (k2.alloc _).grown hgr (fun hh => by injection hh with hh; omega); replace k6 := (k6.alloc _).grown hgr (fun hh => by injection hh with hh; omega); replace hb0 := (hb0.alloc hb0.size _).grown hgr (Nat.le_trans hb0.size (by simp)) (fun k hk => by injection hk with hk; omega); clear hgr hsz)
    obtain ⟨G8, hG8⟩ : ∃ G, G = w6.heap.size := ⟨_, rfl⟩
    rw [← hG8] at k8 ⊢
    clear hG8 LO k2lt k6lt
    dsimp only [Act.put]
    go_cut [9, 10] from 12 (fun p q wx => ∃ g9, p = .pointer (some ⟨g9, 0, none⟩) ∧ q = .bool BB ∧ w7.heap.size ≤ g9 ∧ Blk wx g9 33 (av XR) ∧ Below w7.heap.size w7 wx)
    case first =>
      refine wp_region_grow3 13 11 (fun k => Nat.beq k 9 || (Nat.ble 40 k && Nat.ble k 51)) _ [] (fun j x' q => (rr10L YY U XR N1 D DY VV BB w7.heap.size).getD j (fun _ _ => True) x' q) (fun j => j == 12) (fun f => #[_, _, .pointer (some ⟨G2, 0, none⟩), .bool false, _, _, .pointer (some ⟨G6, 0, none⟩), .bool true, .pointer (some ⟨G8, 0, none⟩), f 9, _, _, _, _, _, _, _, _, _, _, _, _, _, _, _, _, _, _, _, _, _, _, _, _, _, _, _, _, _, _, f 40, f 41, f 42, f 43, f 44, f 45, f 46, f 47, f 48, f 49, f 50, f 51, _, _, _, _, _, _, _, _, _, _, _, _, _, _, _, _, _, _, _, _, _]) (fun f => rfl) (by decide) (by kernel_rfl) (by kernel_rfl) (by kernel_rfl) (by kernel_rfl) (by kernel_rfl) (rr10S _ _ _ _ _ _ _ _ _) ?_ ?_ ?_
      · refine steps2_cons ?_ ?_
        · as_aux_lemma =>
          intro f w1 hb hd Q hK
          clear hd
          have hK := Lib.hid hK
          refine ldNw (by kernel_rfl) rfl rfl (k8.below hb) ?_
          refine wpList_nil ?_
          exact hK.out _ _ rfl (.refl _ _) nof
        refine steps2_cons ?_ ?_
        · as_aux_lemma =>
          intro f w1 hb hd Q hK
          clear hd
          have hK := Lib.hid hK
          go_wp2_with fail
          refine (c1.out _).mono ?_
          rintro e w2 ⟨rfl, hb2⟩
          go_wp2
          exact hK.out _ _ rfl hb2 nof
        refine steps2_cons ?_ ?_
        · as_aux_lemma =>
          intro f w1 hb hd Q hK
          have e41 : f 41 = .agg (av YY) := hd.1 rfl
          have e42 : f 42 = .agg (av N1) := hd.2.1 rfl
          clear hd
          simp only [e41, e42] at hK
          have hK := Lib.hid hK
          go_wp2_with fail
          refine (cu.out _).mono ?_
          rintro e w2 ⟨rfl, hb2⟩
          go_wp2
          exact hK.out _ _ rfl hb2 nof
        refine steps2_cons ?_ ?_
        · as_aux_lemma =>
          intro f w1 hb hd Q hK
          clear hd
          have hK := Lib.hid hK
          go_wp2_with fail
          refine (cd.out _).mono ?_
          rintro e w2 ⟨rfl, hb2⟩
          go_wp2
          exact hK.out _ _ rfl hb2 nof
        refine steps2_cons ?_ ?_
        · as_aux_lemma =>
          intro f w1 hb hd Q hK
          clear hd
          have hK := Lib.hid hK
          refine ldNw (by kernel_rfl) rfl rfl (k8.below hb) ?_
          refine wpList_nil ?_
          exact hK.out _ _ rfl (.refl _ _) nof
        refine steps2_cons ?_ ?_
        · as_aux_lemma =>
          intro f w1 hb hd Q hK
          have e44 : f 44 = .agg (av D) := hd.1 rfl
          have e45 : f 45 = .agg (av YY) := hd.2.1 rfl
          clear hd
          simp only [e44, e45] at hK
          have hK := Lib.hid hK
          go_wp2_with fail
          refine (cdy.out _).mono ?_
          rintro e w2 ⟨rfl, hb2⟩
          go_wp2
          exact hK.out _ _ rfl hb2 nof
        refine steps2_cons ?_ ?_
        · as_aux_lemma =>
          intro f w1 hb hd Q hK
          clear hd
          have hK := Lib.hid hK
          go_wp2_with fail
          refine (c1.out _).mono ?_
          rintro e w2 ⟨rfl, hb2⟩
          go_wp2
          exact hK.out _ _ rfl hb2 nof
        refine steps2_cons ?_ ?_
        · as_aux_lemma =>
          intro f w1 hb hd Q hK
          have e46 : f 46 = .agg (av DY) := hd.1 rfl
          have e47 : f 47 = .agg (av N1) := hd.2.1 rfl
          clear hd
          simp only [e46, e47] at hK
          have hK := Lib.hid hK
          go_wp2_with fail
          refine (cv.out _).mono ?_
          rintro e w2 ⟨rfl, hb2⟩
          go_wp2
          exact hK.out _ _ rfl hb2 nof
        refine steps2_cons ?_ ?_
        · as_aux_lemma =>
          intro f w1 hb hd Q hK
          have e43 : f 43 = .agg (av U) := hd.1 rfl
          have e48 : f 48 = .agg (av VV) := hd.2.1 rfl
          clear hd
          simp only [e43, e48] at hK
          have hK := Lib.hid hK
          go_wp2_with fail
          refine (crt.out _).mono ?_
          rintro e w2 ⟨rfl, hb2⟩
          go_wp2
          exact hK.out _ _ rfl hb2 nof
        refine steps2_cons ?_ ?_
        · as_aux_lemma =>
          intro f w1 hb hd Q hK
          have e49 : f 49 = .tuple #[.agg (av XR), .bool BB] := hd.1 rfl
          clear hd
          simp only [e49] at hK
          have hK := Lib.hid hK
          go_wp2
          exact hK.out _ _ rfl (.refl _ _) nof
        refine steps2_cons ?_ ?_
        · as_aux_lemma =>
          intro f w1 hb hd Q hK
          have e40 : f 40 = .tuple #[.agg (av XR), .bool BB] := hd.1 rfl
          clear hd
          simp only [e40] at hK
          have hK := Lib.hid hK
          go_wp2
          exact hK.out _ _ rfl (.refl _ _) nof
        refine steps2_cons ?_ ?_
        · as_aux_lemma =>
          intro f w1 hb hd Q hK
          have e40 : f 40 = .tuple #[.agg (av XR), .bool BB] := hd.1 rfl
          clear hd
          simp only [e40] at hK
          have hK := Lib.hid hK
          go_wp2
          exact hK.out _ _ rfl (.refl _ _) nof
        refine steps2_cons ?_ ?_
        · as_aux_lemma =>
          intro f w1 hb hd Q hK
          clear hd
          have hK := Lib.hid hK
          have hsz := hb.size
          go_wp2
          exact hK.out _ _ ⟨_, rfl, hsz, Blk.new _ _ _⟩ ((Below.refl _ _).alloc (Nat.le_refl _) _) (fun _ => ⟨_, rfl, Nat.le_refl _⟩)
        trivial
      · intro ff yw hb hf
        obtain ⟨g9, d9, lo9, bk9⟩ : NewB w7.heap.size 33 #[.int .u64 0, .int .u64 0, .int .u64 0, .int .u64 0, .int .u64 0, .int .u64 0, .int .u64 0, .int .u64 0, .int .u64 0, .int .u64 0, .int .u64 0, .int .u64 0, .int .u64 0, .int .u64 0, .int .u64 0, .int .u64 0] (ff 9) yw := hf 12 _ _ (by decide) rfl rfl
        have d50 : ff 50 = .agg (av XR) := hf 10 _ _ (by decide) rfl rfl
        have d51 : ff 51 = .bool BB := hf 11 _ _ (by decide) rfl rfl
        clear hf
        simp only [d9, d50, d51]
        clear d9 d50 d51
        refine stN (old := fun _ => 0) rfl rfl rfl rfl bk9 ?_
        intro w8 k9 hgr hsz
        have hbS : Below w7.heap.size w7 w8 := hb.grown hgr hb.size (fun k hk => by injection hk with hk; omega)
        clear hgr hsz hb bk9
        go_wp2
        go_meet
        case rel => exact ⟨g9, rfl, rfl, lo9, k9, hbS⟩
      intro ff yw hb hf on oe hon hoe
      cases hon
      cases hoe
      obtain ⟨g9, d9, lo9, bk9⟩ : NewB w7.heap.size 33 #[.int .u64 0, .int .u64 0, .int .u64 0, .int .u64 0, .int .u64 0, .int .u64 0, .int .u64 0, .int .u64 0, .int .u64 0, .int .u64 0, .int .u64 0, .int .u64 0, .int .u64 0, .int .u64 0, .int .u64 0, .int .u64 0] (ff 9) yw := hf 12 _ _ (by decide) (by decide) rfl rfl
      have d40 : ff 40 = .tuple #[.agg (av XR), .bool BB] := hf 9 _ _ (by decide) (by decide) rfl rfl
      have d50 : ff 50 = .agg (av XR) := hf 10 _ _ (by decide) (by decide) rfl rfl
      clear hf
      simp only [d9, d40, d50]
      clear d9 d40 d50
      refine stN (old := fun _ => 0) rfl rfl rfl rfl bk9 ?_
      intro w8 k9 hgr hsz
      have hbS : Below w7.heap.size w7 w8 := hb.grown hgr hb.size (fun k hk => by injection hk with hk; omega)
      clear hgr hsz hb bk9
      go_wp2
      go_meet
      case rel => exact ⟨g9, rfl, rfl, lo9, k9, hbS⟩
    case rest =>
      obtain ⟨g9, hp9, hq10, lo9, k9, hb⟩ := hcut
      subst hp9 hq10
      have nnG2_g9 : G2 ≠ g9 := by have := k2.lt; omega
      have nnG6_g9 : G6 ≠ g9 := by have := k6.lt; omega
      replace lo9 : w.heap.size ≤ g9 := Nat.le_trans hb0.size lo9
      replace k2 := k2.below hb
      replace k6 := k6.below hb
      replace hb0 := hb0.trans (hb.mono hb0.size)
      clear hb k8
      cases BB
      · skip
        go_wp2_with (refine stP rfl rfl rfl rfl k2 so rfl (by kernel_rfl) ?_; intro w9 m2 hgr hsz)
        exact retT2 rfl rfl rfl m2 rfl rfl ⟨⟨_, rfl, rfl, by kernel_rfl, fun h => by simp at h⟩, hb0.grown hgr hb0.size (fun k hk => by injection hk with hk; omega)⟩
      · skip
        go_wp2
        refine wp_region_grow2 4 (fun k => Nat.beq k 11 || (Nat.ble 55 k && Nat.ble k 57)) _ [] (fun j x' q => (rr13L XR N0 ZB).getD j (fun _ _ => True) x' q) (fun _ => false) (fun f => #[_, _, .pointer (some ⟨G2, 0, none⟩), .bool false, _, _, .pointer (some ⟨G6, 0, none⟩), .bool true, .pointer (some ⟨G8, 0, none⟩), .pointer (some ⟨g9, 0, none⟩), .bool true, f 11, _, _, _, _, _, _, _, _, _, _, _, _, _, _, _, _, _, _, _, _, _, _, _, _, _, _, _, _, _, _, _, _, _, _, _, _, _, _, _, _, _, _, _, f 55, f 56, f 57, _, _, _, _, _, _, _, _, _, _, _, _, _, _, _]) (fun f => rfl) (by kernel_rfl) (by kernel_rfl) (by kernel_rfl) (by kernel_rfl) (by kernel_rfl) (rr13S _ _ _) (fun _ _ _ h => by cases h) ?_ ?_
        · refine steps2_cons ?_ ?_
          · as_aux_lemma =>
            intro f w1 hb hd Q hK
            clear hd
            have hK := Lib.hid hK
            refine ldNw (by kernel_rfl) rfl rfl (k9.below hb) ?_
            refine wpList_nil ?_
            exact hK.out _ _ rfl (.refl _ _) nof
          refine steps2_cons ?_ ?_
          · as_aux_lemma =>
            intro f w1 hb hd Q hK
            clear hd
            have hK := Lib.hid hK
            go_wp2_with fail
            refine (c0.out _).mono ?_
            rintro e w2 ⟨rfl, hb2⟩
            go_wp2
            exact hK.out _ _ rfl hb2 nof
          refine steps2_cons ?_ ?_
          · as_aux_lemma =>
            intro f w1 hb hd Q hK
            have e55 : f 55 = .agg (av XR) := hd.1 rfl
            have e56 : f 56 = .agg (av N0) := hd.2.1 rfl
            clear hd
            simp only [e55, e56] at hK
            have hK := Lib.hid hK
            have hq := fun w => (run_eql_N XR N0 w).trans (by rw [q1.out])
            go_wp2
            exact hK.out _ _ rfl (.refl _ _) nof
          refine steps2_cons ?_ ?_
          · as_aux_lemma =>
            intro f w1 hb hd Q hK
            have e57 : f 57 = .bool ZB := hd.1 rfl
            clear hd
            simp only [e57] at hK
            have hK := Lib.hid hK
            go_wp2
            exact hK.out _ _ rfl (.refl _ _) nof
          trivial
        intro f1 vd1 hb hf hne
        refine wpList_nil ?_
        have d11 : f1 11 = .bool ZB := hf 3 _ _ (by decide) rfl rfl
        clear hf hne
        simp only [d11]
        clear d11
        replace k2 := k2.below hb
        replace k6 := k6.below hb
        replace k9 := k9.below hb
        replace hb0 := hb0.trans (hb.mono hb0.size)
        clear hb
        have hmk2 : True := trivial
        cases od
        · skip
          cases ZB
          · skip
            go_wp2
            refine wp_region_grow2 4 (fun k => (Nat.ble 69 k && Nat.ble k 72)) _ [] (fun j x' q => (rrF018L YF XR N1).getD j (fun _ _ => True) x' q) (fun _ => false) (fun f => #[_, _, .pointer (some ⟨G2, 0, none⟩), .bool false, _, _, .pointer (some ⟨G6, 0, none⟩), .bool true, .pointer (some ⟨G8, 0, none⟩), .pointer (some ⟨g9, 0, none⟩), .bool true, .bool false, _, _, _, _, _, _, _, _, _, _, _, _, _, _, _, _, _, _, _, _, _, _, _, _, _, _, _, _, _, _, _, _, _, _, _, _, _, _, _, _, _, _, _, _, _, _, _, _, _, _, _, _, _, _, _, _, _, f 69, f 70, f 71, f 72]) (fun f => rfl) (by kernel_rfl) (by kernel_rfl) (by kernel_rfl) (by kernel_rfl) (by kernel_rfl) (rrF018S _ _ _) (fun _ _ _ h => by cases h) ?_ ?_
            · refine steps2_cons ?_ ?_
              · as_aux_lemma =>
                intro f w1 hb hd Q hK
                clear hd
                have hK := Lib.hid hK
                refine ldNw (by kernel_rfl) rfl rfl (k9.below hb) ?_
                refine wpList_nil ?_
                exact hK.out _ _ rfl (.refl _ _) nof
              refine steps2_cons ?_ ?_
              · as_aux_lemma =>
                intro f w1 hb hd Q hK
                clear hd
                have hK := Lib.hid hK
                refine ldNw (by kernel_rfl) rfl rfl (k6.below hb) ?_
                refine wpList_nil ?_
                exact hK.out _ _ rfl (.refl _ _) nof
              refine steps2_cons ?_ ?_
              · as_aux_lemma =>
                intro f w1 hb hd Q hK
                clear hd
                have hK := Lib.hid hK
                go_wp2_with fail
                refine (c1.out _).mono ?_
                rintro e w2 ⟨rfl, hb2⟩
                go_wp2
                exact hK.out _ _ rfl hb2 nof
              refine steps2_cons ?_ ?_
              · as_aux_lemma =>
                intro f w1 hb hd Q hK
                have e69 : f 69 = .agg (av XR) := hd.1 rfl
                have e70 : f 70 = .agg (av YF) := hd.2.1 rfl
                have e71 : f 71 = .agg (av N1) := hd.2.2.1 rfl
                clear hd
                simp only [e69, e70, e71] at hK
                have hK := Lib.hid hK
                refine bdT (by simp only [e69, e70, e71]; kernel_rfl) rfl e69 e70 e71 ?_
                refine wpList_nil ?_
                simp only [e69, e70, e71]
                exact hK.out _ _ rfl (.refl _ _) nof
              trivial
            intro f2 vd2 hb hf hne
            have d72 : f2 72 = .agg (tcf XR YF N1) := hf 3 _ _ (by decide) rfl rfl
            clear hf hne
            simp only [d72]
            clear d72
            replace k2 := k2.below hb
            replace k6 := k6.below hb
            replace k9 := k9.below hb
            replace hb0 := hb0.trans (hb.mono hb0.size)
            clear hb
            refine stT rfl rfl rfl rfl k2 so ?_
            intro vs2_0 mG2 hgr hsz
            replace hb0 := hb0.grown hgr hb0.size (fun k hk => by injection hk with hk; omega)
            clear hgr hsz
            go_wp2
            exact retT2 rfl rfl rfl mG2 (tcf_size _ _ _) rfl ⟨⟨_, rfl, tcf_size _ _ _, tcf_one _ _ _, fun _ => by rw [← hXF.out]; rfl⟩, hb0⟩
          · skip
            go_wp2
            refine wp_region_grow2 4 (fun k => (Nat.ble 69 k && Nat.ble k 72)) _ [] (fun j x' q => (rrF118L YF XR N1).getD j (fun _ _ => True) x' q) (fun _ => false) (fun f => #[_, _, .pointer (some ⟨G2, 0, none⟩), .bool false, _, _, .pointer (some ⟨G6, 0, none⟩), .bool true, .pointer (some ⟨G8, 0, none⟩), .pointer (some ⟨g9, 0, none⟩), .bool true, .bool true, _, _, _, _, _, _, _, _, _, _, _, _, _, _, _, _, _, _, _, _, _, _, _, _, _, _, _, _, _, _, _, _, _, _, _, _, _, _, _, _, _, _, _, _, _, _, _, _, _, _, _, _, _, _, _, _, _, f 69, f 70, f 71, f 72]) (fun f => rfl) (by kernel_rfl) (by kernel_rfl) (by kernel_rfl) (by kernel_rfl) (by kernel_rfl) (rrF118S _ _ _) (fun _ _ _ h => by cases h) ?_ ?_
            · refine steps2_cons ?_ ?_
              · as_aux_lemma =>
                intro f w1 hb hd Q hK
                clear hd
                have hK := Lib.hid hK
                refine ldNw (by kernel_rfl) rfl rfl (k9.below hb) ?_
                refine wpList_nil ?_
                exact hK.out _ _ rfl (.refl _ _) nof
              refine steps2_cons ?_ ?_
              · as_aux_lemma =>
                intro f w1 hb hd Q hK
                clear hd
                have hK := Lib.hid hK
                refine ldNw (by kernel_rfl) rfl rfl (k6.below hb) ?_
                refine wpList_nil ?_
                exact hK.out _ _ rfl (.refl _ _) nof
              refine steps2_cons ?_ ?_
              · as_aux_lemma =>
                intro f w1 hb hd Q hK
                clear hd
                have hK := Lib.hid hK
                go_wp2_with fail
                refine (c1.out _).mono ?_
                rintro e w2 ⟨rfl, hb2⟩
                go_wp2
                exact hK.out _ _ rfl hb2 nof
              refine steps2_cons ?_ ?_
              · as_aux_lemma =>
                intro f w1 hb hd Q hK
                have e69 : f 69 = .agg (av XR) := hd.1 rfl
                have e70 : f 70 = .agg (av YF) := hd.2.1 rfl
                have e71 : f 71 = .agg (av N1) := hd.2.2.1 rfl
                clear hd
                simp only [e69, e70, e71] at hK
                have hK := Lib.hid hK
                refine bdT (by simp only [e69, e70, e71]; kernel_rfl) rfl e69 e70 e71 ?_
                refine wpList_nil ?_
                simp only [e69, e70, e71]
                exact hK.out _ _ rfl (.refl _ _) nof
              trivial
            intro f3 vd3 hb hf hne
            have d72 : f3 72 = .agg (tcf XR YF N1) := hf 3 _ _ (by decide) rfl rfl
            clear hf hne
            simp only [d72]
            clear d72
            replace k2 := k2.below hb
            replace k6 := k6.below hb
            replace k9 := k9.below hb
            replace hb0 := hb0.trans (hb.mono hb0.size)
            clear hb
            refine stT rfl rfl rfl rfl k2 so ?_
            intro vs3_0 mG2 hgr hsz
            replace hb0 := hb0.grown hgr hb0.size (fun k hk => by injection hk with hk; omega)
            clear hgr hsz
            go_wp2
            exact retT2 rfl rfl rfl mG2 (tcf_size _ _ _) rfl ⟨⟨_, rfl, tcf_size _ _ _, tcf_one _ _ _, fun _ => by rw [← hXF.out]; rfl⟩, hb0⟩
        · skip
          cases ZB
          · skip
            go_wp2
            refine wp_region_grow2 3 (fun k => (Nat.ble 66 k && Nat.ble k 68)) _ [] (fun j x' q => (rrT17L XR XN N0).getD j (fun _ _ => True) x' q) (fun _ => false) (fun f => #[_, _, .pointer (some ⟨G2, 0, none⟩), .bool false, _, _, .pointer (some ⟨G6, 0, none⟩), .bool true, .pointer (some ⟨G8, 0, none⟩), .pointer (some ⟨g9, 0, none⟩), .bool true, .bool false, _, _, _, _, _, _, _, _, _, _, _, _, _, _, _, _, _, _, _, _, _, _, _, _, _, _, _, _, _, _, _, _, _, _, _, _, _, _, _, _, _, _, _, _, _, _, _, _, _, _, _, _, _, _, f 66, f 67, f 68, _, _, _, _]) (fun f => rfl) (by kernel_rfl) (by kernel_rfl) (by kernel_rfl) (by kernel_rfl) (by kernel_rfl) (rrT17S _ _ _) (fun _ _ _ h => by cases h) ?_ ?_
            · refine steps2_cons ?_ ?_
              · as_aux_lemma =>
                intro f w1 hb hd Q hK
                clear hd
                have hK := Lib.hid hK
                go_wp2_with fail
                refine (c0.out _).mono ?_
                rintro e w2 ⟨rfl, hb2⟩
                go_wp2
                exact hK.out _ _ rfl hb2 nof
              refine steps2_cons ?_ ?_
              · as_aux_lemma =>
                intro f w1 hb hd Q hK
                clear hd
                have hK := Lib.hid hK
                refine ldNw (by kernel_rfl) rfl rfl (k9.below hb) ?_
                refine wpList_nil ?_
                exact hK.out _ _ rfl (.refl _ _) nof
              refine steps2_cons ?_ ?_
              · as_aux_lemma =>
                intro f w1 hb hd Q hK
                have e66 : f 66 = .agg (av N0) := hd.1 rfl
                have e67 : f 67 = .agg (av XR) := hd.2.1 rfl
                clear hd
                simp only [e66, e67] at hK
                have hK := Lib.hid hK
                go_wp2_with fail
                refine (cng.out _).mono ?_
                rintro e w2 ⟨rfl, hb2⟩
                go_wp2
                exact hK.out _ _ rfl hb2 nof
              trivial
            intro f4 vd4 hb hf hne
            have d68 : f4 68 = .agg (av XN) := hf 2 _ _ (by decide) rfl rfl
            clear hf hne
            simp only [d68]
            clear d68
            replace k2 := k2.below hb
            replace k6 := k6.below hb
            replace k9 := k9.below hb
            replace hb0 := hb0.trans (hb.mono hb0.size)
            clear hb
            refine stN rfl rfl rfl rfl k9 ?_
            intro vs4_0 mg9 hgr hsz
            replace k2 := k2.grown hgr (fun hh => nnG2_g9 (by injection hh))
            replace k6 := k6.grown hgr (fun hh => nnG6_g9 (by injection hh))
            clear k9
            replace hb0 := hb0.grown hgr hb0.size (fun k hk => by injection hk with hk; omega)
            clear hgr hsz
            refine wpList_nil ?_
            go_wp2
            refine wp_region_grow2 4 (fun k => (Nat.ble 69 k && Nat.ble k 72)) _ [] (fun j x' q => (rrT18L YF XN N1).getD j (fun _ _ => True) x' q) (fun _ => false) (fun f => #[_, _, .pointer (some ⟨G2, 0, none⟩), .bool false, _, _, .pointer (some ⟨G6, 0, none⟩), .bool true, .pointer (some ⟨G8, 0, none⟩), .pointer (some ⟨g9, 0, none⟩), .bool true, .bool false, _, _, _, _, _, _, _, _, _, _, _, _, _, _, _, _, _, _, _, _, _, _, _, _, _, _, _, _, _, _, _, _, _, _, _, _, _, _, _, _, _, _, _, _, _, _, _, _, _, _, _, _, _, _, f4 66, f4 67, .agg (av XN), f 69, f 70, f 71, f 72]) (fun f => rfl) (by kernel_rfl) (by kernel_rfl) (by kernel_rfl) (by kernel_rfl) (by kernel_rfl) (rrT18S _ _ _) (fun _ _ _ h => by cases h) ?_ ?_
            · refine steps2_cons ?_ ?_
              · as_aux_lemma =>
                intro f w1 hb hd Q hK
                clear hd
                have hK := Lib.hid hK
                refine ldNw (by kernel_rfl) rfl rfl (mg9.below hb) ?_
                refine wpList_nil ?_
                exact hK.out _ _ rfl (.refl _ _) nof
              refine steps2_cons ?_ ?_
              · as_aux_lemma =>
                intro f w1 hb hd Q hK
                clear hd
                have hK := Lib.hid hK
                refine ldNw (by kernel_rfl) rfl rfl (k6.below hb) ?_
                refine wpList_nil ?_
                exact hK.out _ _ rfl (.refl _ _) nof
              refine steps2_cons ?_ ?_
              · as_aux_lemma =>
                intro f w1 hb hd Q hK
                clear hd
                have hK := Lib.hid hK
                go_wp2_with fail
                refine (c1.out _).mono ?_
                rintro e w2 ⟨rfl, hb2⟩
                go_wp2
                exact hK.out _ _ rfl hb2 nof
              refine steps2_cons ?_ ?_
              · as_aux_lemma =>
                intro f w1 hb hd Q hK
                have e69 : f 69 = .agg (av XN) := hd.1 rfl
                have e70 : f 70 = .agg (av YF) := hd.2.1 rfl
                have e71 : f 71 = .agg (av N1) := hd.2.2.1 rfl
                clear hd
                simp only [e69, e70, e71] at hK
                have hK := Lib.hid hK
                refine bdT (by simp only [e69, e70, e71]; kernel_rfl) rfl e69 e70 e71 ?_
                refine wpList_nil ?_
                simp only [e69, e70, e71]
                exact hK.out _ _ rfl (.refl _ _) nof
              trivial
            intro f5 vd5 hb hf hne
            have d72 : f5 72 = .agg (tcf XN YF N1) := hf 3 _ _ (by decide) rfl rfl
            clear hf hne
            simp only [d72]
            clear d72
            replace k2 := k2.below hb
            replace k6 := k6.below hb
            replace mg9 := mg9.below hb
            replace hb0 := hb0.trans (hb.mono hb0.size)
            clear hb
            refine stT rfl rfl rfl rfl k2 so ?_
            intro vs5_0 mG2 hgr hsz
            replace hb0 := hb0.grown hgr hb0.size (fun k hk => by injection hk with hk; omega)
            clear hgr hsz
            go_wp2
            exact retT2 rfl rfl rfl mG2 (tcf_size _ _ _) rfl ⟨⟨_, rfl, tcf_size _ _ _, tcf_one _ _ _, fun _ => by rw [← hXF.out]; rfl⟩, hb0⟩
          · skip
            go_wp2_with (refine stP rfl rfl rfl rfl k2 so rfl (by kernel_rfl) ?_; intro w9 m2 hgr hsz)
            exact retT2 rfl rfl rfl m2 rfl rfl ⟨⟨_, rfl, rfl, by kernel_rfl, fun h => by simp at h⟩, hb0.grown hgr hb0.size (fun k hk => by injection hk with hk; omega)⟩
end Go.Proofs.YtpaldgajkhmhbaaDoor

namespace Fe
theorem rb_nB {b : Nat → Int} (hr : ∀ j, 0 ≤ b j ∧ b j < 256) (h : okB b = true) (j : Nat) (hj : j < 32) : Dg.rb (nB b) j = clr b j := by
  unfold okB at h
  rw [Bool.and_eq_true] at h
  obtain ⟨_, _, n, hn, hd⟩ := ok_get (clr_r hr) h.1
  have e : nB b = n := hn
  rw [e]
  have hd' := hd (j / 2) (by omega)
  have h1 := clr_r hr (2 * (j / 2))
  have h2 := clr_r hr (2 * (j / 2) + 1)
  unfold Dg.bd at hd'
  rcases (show j = 2 * (j / 2) ∨ j = 2 * (j / 2) + 1 by omega) with q | q
  · have := Dg.rb_lo n (j / 2)
    rw [← hd'] at this
    rw [q, ← this]
    omega
  have := Dg.rb_hi n (j / 2)
  rw [← hd'] at this
  rw [q, ← this]
  omega
theorem nB_lt (b : Nat → Int) : nB b < P := nv_lt _
theorem enc_dec {b : Nat → Int} (hr : ∀ j, 0 ≤ b j ∧ b j < 256) (h : okB b = true) (j : Nat) (hj : j < 32) : Go.Proofs.YtpaldgajkhmhbaaDoor.ptB (zf (nB b)).val (zf (gX (nB b) (odB b))).val j = b j := by
  have hy : (zf (nB b)).val = nB b := Nat.mod_eq_of_lt (nB_lt b)
  have hx : (zf (gX (nB b) (odB b))).val = gX (nB b) (odB b) := Nat.mod_eq_of_lt (gX_lt _ _)
  rw [hy, hx]
  have hg := h
  unfold okB at hg
  rw [Bool.and_eq_true] at hg
  have ho := g_odd hg.2
  unfold Go.Proofs.YtpaldgajkhmhbaaDoor.ptB
  split
  · rename_i e
    subst e
    rw [rb_nB hr h 31 (by decide)]
    have h31 := hr 31
    unfold clr
    rw [if_pos rfl]
    unfold odB at ho
    by_cases q : gX (nB b) (odB b) % 2 = 1
    · rw [if_pos q]
      unfold odB at q
      rw [decide_eq_true q] at ho
      have := of_decide_eq_true ho.symm
      omega
    rw [if_neg q]
    unfold odB at q
    rw [decide_eq_false q] at ho
    have := of_decide_eq_false ho.symm
    omega
  rename_i e
  rw [rb_nB hr h j hj]
  unfold clr
  rw [if_neg e]
end Fe
namespace Go.Proofs.YtpaldgajkhmhbaaDoor
open Go.RowKit
theorem av_ext {f g : Nat → Int} (h : ∀ j, j < 16 → f j = g j) : av f = av g := by
  unfold av
  rw [h 0 (by decide), h 1 (by decide), h 2 (by decide), h 3 (by decide), h 4 (by decide), h 5 (by decide), h 6 (by decide), h 7 (by decide), h 8 (by decide), h 9 (by decide), h 10 (by decide), h 11 (by decide), h 12 (by decide), h 13 (by decide), h 14 (by decide), h 15 (by decide)]
theorem rread_h (g o c : Nat) (b : Nat → Int) (hr : ∀ j, 0 ≤ b j ∧ b j < 256) (w : World) (hg : g < w.heap.size) (hc : ∀ j, j < 32 → w.cell? ⟨g, o + j, none⟩ = some (.int .u8 (b j))) (ok : Bool) (y : Nat) (hy : y < Fe.P) (hok : lessB (Dg.bd (Fe.clr b)) pd = ok) (hY : av (readF (Fe.clr b)) = av (Dg.dg y)) :
    Calls Tryd.prog 14 #[.slice (some ⟨g, o, none⟩) 32 c] w (PostRd (ok && Fe.gB y (Fe.odB b)) (Dg.dg (Fe.gX y (Fe.odB b))) (Dg.dg y) (Dg.dg 1) w) := by
  have l := Fe.mod_lt'
  have hRd : ∀ (g c : Nat) (w : World), RowB w g 32 c (Fe.clr b) → Calls Tryd.prog 59 #[.slice (some ⟨g, 0, none⟩) 32 c] w (PostR2 (Dg.dg y) ok w) := fun g c w h => by
    unfold PostR2
    rw [← hY, ← hok]
    exact read_s (Fe.clr b) g 0 c w (fun j hj => by rw [Nat.zero_add]; exact h.cell j hj) (Fe.clr_r hr) h.lt
  have h := rRead_g (g := g) (o := o) (c := c) (b := b) (od := Fe.odB b) (XF := if Fe.odB b then Dg.dg ((0 + (Fe.P - Fe.rN (Fe.uN y) (Fe.vN y))) % Fe.P) else Dg.dg (Fe.rN (Fe.uN y) (Fe.vN y))) hr w hg hc rfl hRd (rMul_c y y hy hy) (number_c 1 (by decide)) (rSub_c (y * y % Fe.P) 1 (l _) Fe.P_one) rD_c (rMul_c Fe.dN (y * y % Fe.P) Fe.dN_lt (l _)) (rAdd_c (Fe.dN * (y * y % Fe.P) % Fe.P) 1 (l _) Fe.P_one) (rRoot_c (Fe.uN y) (Fe.vN y) (Fe.uN_lt y) (Fe.vN_lt y)) (number_c 0 (by decide)) (rSub_c 0 (Fe.rN (Fe.uN y) (Fe.vN y)) Fe.P_pos (Fe.rN_lt _ _)) (eqN_dec (Fe.rN_lt (Fe.uN y) (Fe.vN y)) Fe.P_pos) rfl
  have e1 : (ok && Fe.bN (Fe.uN y) (Fe.vN y) && !(Fe.odB b && decide (Fe.rN (Fe.uN y) (Fe.vN y) = 0))) = (ok && Fe.gB y (Fe.odB b)) := by unfold Fe.gB; rw [Bool.and_assoc]
  have e2 : (if Fe.odB b then Dg.dg ((0 + (Fe.P - Fe.rN (Fe.uN y) (Fe.vN y))) % Fe.P) else Dg.dg (Fe.rN (Fe.uN y) (Fe.vN y))) = Dg.dg (Fe.gX y (Fe.odB b)) := by
    unfold Fe.gX
    cases Fe.odB b
    · rw [if_neg (by decide), if_neg (by decide)]
    rw [if_pos rfl, if_pos rfl, Nat.zero_add]
  rw [e1, e2] at h
  exact h
theorem rread_c (g o c : Nat) (b : Nat → Int) (hr : ∀ j, 0 ≤ b j ∧ b j < 256) (w : World) (hg : g < w.heap.size) (hc : ∀ j, j < 32 → w.cell? ⟨g, o + j, none⟩ = some (.int .u8 (b j))) :
    Calls Tryd.prog 14 #[.slice (some ⟨g, o, none⟩) 32 c] w (PostRd (Fe.okB b) (Dg.dg (Fe.gX (Fe.nB b) (Fe.odB b))) (Dg.dg (Fe.nB b)) (Dg.dg 1) w) := by
  have hs := Fe.ok_same (Fe.clr_r hr)
  unfold Fe.okB
  cases hk : getOk (Fe.clr b)
  · have hl : lessB (Dg.bd (Fe.clr b)) pd = false := hs.symm.trans hk
    have h := rread_h g o c b hr w hg hc false 0 Fe.P_pos hl (by unfold readF; rw [if_neg (by rw [hl]; decide), dg_zero])
    refine h.mono ?_
    rintro e w' ⟨⟨cs, he, hs, ho, _⟩, hb⟩
    rw [Bool.false_and] at he
    exact ⟨⟨cs, he, hs, ho, fun q => by cases q⟩, hb⟩
  have hl : lessB (Dg.bd (Fe.clr b)) pd = true := hs.symm.trans hk
  obtain ⟨_, _, n, hn, hd⟩ := Fe.ok_get (Fe.clr_r hr) hk
  have e : Fe.nB b = n := hn
  refine rread_h g o c b hr w hg hc true (Fe.nB b) (Fe.nB_lt b) hl ?_
  unfold readF
  rw [if_pos hl, e]
  exact av_ext hd
set_option maxRecDepth 20000 in
set_option maxHeartbeats 8000000 in
theorem rread_x (p : Option Addr) (n c : Nat) (hn : n ≠ 32) (F G H : Nat → Int) (w : World) : Calls Tryd.prog 14 #[.slice p n c] w (PostRd false F G H w) := by
  have hne : ¬ (n : Int) = 32 := by omega
  go_enter Tryd.func14, Tryd.ntmps14
  go_wp2_with (refine stP rfl rfl rfl rfl (Blk.new _ _ _) rfl rfl (by kernel_rfl) ?_; intro w2 m2 hgr hsz)
  exact retT2 rfl rfl rfl m2 rfl rfl ⟨⟨_, rfl, rfl, by kernel_rfl, fun q => by cases q⟩, ((Below.refl _ _).alloc (Nat.le_refl _) _).grown hgr (by rw [World.size_alloc]; omega) (fun k hk => by injection hk with hk; omega)⟩
theorem same_reflG (x y : Fin Fe.P) : (decide (x = x) && decide (y = y)) = true := by rw [decide_eq_true rfl, decide_eq_true rfl]; rfl
end Go.Proofs.YtpaldgajkhmhbaaDoor

namespace Go.Proofs.YtpaldgajkhmhbaaDoor
open Go.RowKit
/-- from the highest bit down -/
def downB (b : Nat → Bool) (m : Nat) (i : Nat) : Nat × Bool := (m - 1 - i, b (m - 1 - i))
set_option maxRecDepth 20000 in
set_option maxHeartbeats 8000000 in
theorem rmul_c (g o m c : Nat) (B : Nat → Bool) (hm : m ≤ 1000) {A1 B1 C1 : Nat} {x y : Fin Fe.P} (w : World) (hg : g < w.heap.size) (hc : ∀ j, j < m → w.cell? ⟨g, o + j, none⟩ = some (.bool (B j))) (hp : Fe.RA A1 B1 C1 x y) :
    Calls Tryd.prog 48 #[.slice (some ⟨g, o, none⟩) m c, .agg (tcs A1 B1 C1)] w (PostRp (mulS x y (upto (downB B m) m)).1 (mulS x y (upto (downB B m) m)).2 w) := by
  obtain ⟨D, hd, hadd⟩ := radd_D
  replace hadd := Lib.hid hadd
  replace hd := Lib.hid hd
  replace hp := Lib.hid hp
  replace hc := Lib.hid hc
  go_enter Tryd.func48, Tryd.ntmps48
  go_wp2_with fail
  refine calls_at (fun W0 hW => ?_)
  have k3 : Blk W0 w.heap.size 35 (tcs A1 B1 C1) := by rw [hW]; exact (Blk.new _ _ _).alloc _
  obtain ⟨old, k4, so⟩ : ∃ old, Blk W0 (w.heap.size + 1) 35 old ∧ old.size = 48 := by rw [hW]; exact ⟨_, blk_at (by simp) (Blk.new _ _ _), rfl⟩
  have hb0 : Below w.heap.size w W0 := by rw [hW]; go_grown
  clear hW
  obtain ⟨G4, hG4⟩ : ∃ G, G = w.heap.size + 1 := ⟨_, rfl⟩
  obtain ⟨G3, hG3⟩ : ∃ G, G = w.heap.size := ⟨_, rfl⟩
  rw [← hG4] at k4 ⊢
  rw [← hG3] at k3 ⊢
  have lo4 : w.heap.size ≤ G4 := by omega
  have lo3 : w.heap.size ≤ G3 := by omega
  clear hG3 hG4
  refine (hd.out _).mono ?_
  rintro e w1 ⟨rfl, hb⟩
  replace k3 := k3.below hb
  replace k4 := k4.below hb
  replace hb0 := hb0.trans (hb.mono hb0.size)
  clear hb hd
  have k3lt := k3.lt
  have k4lt := k4.lt
  go_wp2_with (refine stN (f := D) (old := fun _ => 0) rfl rfl rfl rfl (Blk.new _ _ _) ?_; intro w2 k5 hgr hsz; replace k3 := (k3.alloc _).grown hgr (fun hh => by injection hh with hh; omega); replace k4 := (k4.alloc _).grown hgr (fun hh => by injection hh with hh; omega))
  replace hb0 := (hb0.alloc hb0.size _).grown hgr (Nat.le_trans hb0.size (by simp)) (fun k hk => by injection hk with hk; have := hb0.size; omega)
  clear hgr hsz k3lt k4lt
  obtain ⟨G5, hG5⟩ : ∃ g, g = w1.heap.size := ⟨_, rfl⟩
  rw [← hG5] at k5 ⊢
  clear hG5
  refine (rzero_c _).mono ?_
  rintro e w3 ⟨a0, b0, c0, rfl, hR, hb⟩
  replace k3 := k3.below hb
  replace k4 := k4.below hb
  replace k5 := k5.below hb
  replace hb0 := hb0.trans (hb.mono hb0.size)
  clear hb
  have k3lt := k3.lt
  have k4lt := k4.lt
  have k5lt := k5.lt
  have n63 : w3.heap.size ≠ G3 := by omega
  have n64 : w3.heap.size ≠ G4 := by omega
  have n65 : w3.heap.size ≠ G5 := by omega
  have lo6 := hb0.size
  go_wp2_with (refine stT rfl rfl rfl rfl (Blk.new _ _ _) rfl ?_; intro w4 k6 hgr hsz; replace k3 := (k3.alloc _).grown hgr (fun hh => by injection hh with hh; omega); replace k4 := (k4.alloc _).grown hgr (fun hh => by injection hh with hh; omega); replace k5 := (k5.alloc _).grown hgr (fun hh => by injection hh with hh; omega))
  replace hb0 := (hb0.alloc hb0.size _).grown hgr (Nat.le_trans hb0.size (by simp)) (fun k hk => by injection hk with hk; have := hb0.size; omega)
  clear hgr hsz k3lt k4lt k5lt
  obtain ⟨G6, hG6⟩ : ∃ g, g = w3.heap.size := ⟨_, rfl⟩
  rw [← hG6] at k6 n63 n64 n65 lo6 ⊢
  clear hG6
  have k6' : ∃ a b c, Blk w4 G6 35 (tcs a b c) ∧ Fe.RA a b c (mulS x y (upto (downB B m) 0)).1 (mulS x y (upto (downB B m) 0)).2 := ⟨a0, b0, c0, k6, hR⟩
  clear k6 hR
  have hg4 : g < w.heap.size := hg
  replace n63 := Lib.hid n63
  replace n64 := Lib.hid n64
  replace n65 := Lib.hid n65
  replace k6' := Lib.hid k6'
  go_loopw [7] (fun i wr => ∃ k : Nat, k ≤ m ∧ i = .int .i64 ((m : Int) - 1 - k) ∧ (∃ a b c, Blk wr G6 35 (tcs a b c) ∧ Fe.RA a b c (mulS x y (upto (downB B m) k)).1 (mulS x y (upto (downB B m) k)).2) ∧ Blk wr G5 33 (av D) ∧ Blk wr G3 35 (tcs A1 B1 C1) ∧ Blk wr G4 35 old ∧ Below w.heap.size w wr) (fun i _ => (intOf i + 1).toNat)
  case atStart => exact ⟨0, by omega, by simp, k6'.out, k5, k3, k4, hb0⟩
  case round =>
    clear k6' k5 k3 k4 hb0
    obtain ⟨k, hk, hi, ⟨a, b, cc, k6, hR⟩, k5, k3, k4, hb0⟩ := hrel
    subst hi
    by_cases he : k = m
    · as_aux_lemma =>
      subst he
      replace hR := Lib.hid hR
      have hneg : ((k : Int) - 1 - k) = -1 := by omega
      rw [hneg]
      clear hneg hk
      go_wp2_with (first | (refine ldTw (by kernel_rfl) rfl rfl k6 ?_) | (refine stT rfl rfl rfl rfl k4 so ?_; intro w9 m4 hgr hsz))
      exact retT rfl rfl m4 rfl ⟨a, b, cc, rfl, hR.out, hb0.grown hgr hb0.size (fun k hk => by injection hk with hk; omega)⟩
    obtain ⟨j, hj⟩ : ∃ j, j = m - 1 - k := ⟨_, rfl⟩
    have hi : ((m : Int) - 1 - k) = (j : Int) := by omega
    have hjm : (j : Int) < (m : Int) := by omega
    have hj0 : (0 : Int) ≤ (j : Int) := by omega
    have hjn : j < m := by omega
    have hkm : k < m := by omega
    rw [hi]
    have hdn : downB B m k = (j, B j) := by unfold downB; rw [← hj]
    have hdn' := Lib.hid hdn
    clear hdn
    replace hi := Lib.hid hi
    replace hj := Lib.hid hj
    replace hR := Lib.hid hR
    replace hkm := Lib.hid hkm
    clear he hk
    go_wp2_with (first | (refine ldNw (by kernel_rfl) rfl rfl k5 ?_) | (refine ldTw (by kernel_rfl) rfl rfl k6 ?_))
    refine (hadd.out _ _ _ _ _ _ _ _ _ _ hR.out hR.out _).mono ?_
    rintro e w5 ⟨a2, b2, c2, rfl, hR2, hb⟩
    replace k3 := k3.below hb
    replace k4 := k4.below hb
    replace k5 := k5.below hb
    replace k6 := k6.below hb
    replace hb0 := hb0.trans (hb.mono hb0.size)
    clear hb hR
    replace hR2 := Lib.hid hR2
    have q := fun (W : World) (hb : Below w.heap.size w W) => (hb.cell (p := ⟨g, o + j, none⟩) hg4).trans (hc.out j hjn)
    replace q := Lib.hid q
    cases hB : B j
    · rw [hB] at q hdn'
      go_wp2_with (first | (refine stT rfl rfl rfl rfl k6 (tcf_size _ _ _) ?_; intro w6 m6 hgr hsz; replace k3 := k3.grown hgr (fun hh => n63.out (by injection hh with hh; exact hh.symm)); replace k4 := k4.grown hgr (fun hh => n64.out (by injection hh with hh; exact hh.symm)); replace k5 := k5.grown hgr (fun hh => n65.out (by injection hh with hh; exact hh.symm)); replace hb0 := hb0.grown hgr hb0.size (fun k hk => by injection hk with hk; omega); have qq := q.out _ hb0; clear hgr hsz k6))
      go_roundw
      case rel => exact ⟨k + 1, hkm.out, by have := hj.out; have := hkm.out; congr 1; omega, ⟨a2, b2, c2, m6, by rw [upto_succ, mulS_snoc, hdn'.out]; exact hR2.out⟩, k5, k3, k4, hb0⟩
      case measure => have := hj.out; first | (simp [intOf]; done) | (simp [intOf]; omega)
    rw [hB] at q hdn'
    go_wp2_with (first | (refine stT rfl rfl rfl rfl k6 (tcf_size _ _ _) ?_; intro w6 m6 hgr hsz; replace k3 := k3.grown hgr (fun hh => n63.out (by injection hh with hh; exact hh.symm)); replace k4 := k4.grown hgr (fun hh => n64.out (by injection hh with hh; exact hh.symm)); replace k5 := k5.grown hgr (fun hh => n65.out (by injection hh with hh; exact hh.symm)); replace hb0 := hb0.grown hgr hb0.size (fun k hk => by injection hk with hk; omega); have qq := q.out _ hb0; clear hgr hsz k6) | (refine ldNw (by kernel_rfl) rfl rfl k5 ?_) | (refine ldTw (by kernel_rfl) rfl rfl m6 ?_) | (refine ldTw (by kernel_rfl) rfl rfl k3 ?_))
    clear qq
    refine (hadd.out _ _ _ _ _ _ _ _ _ _ hR2.out hp.out _).mono ?_
    rintro e w7 ⟨a3, b3, c3, rfl, hR3, hb⟩
    replace k3 := k3.below hb
    replace k4 := k4.below hb
    replace k5 := k5.below hb
    replace m6 := m6.below hb
    replace hb0 := hb0.trans (hb.mono hb0.size)
    clear hb
    replace hR3 := Lib.hid hR3
    go_wp2_with (first | (refine stT rfl rfl rfl rfl m6 (tcf_size _ _ _) ?_; intro w8 m7 hgr hsz; replace k3 := k3.grown hgr (fun hh => n63.out (by injection hh with hh; exact hh.symm)); replace k4 := k4.grown hgr (fun hh => n64.out (by injection hh with hh; exact hh.symm)); replace k5 := k5.grown hgr (fun hh => n65.out (by injection hh with hh; exact hh.symm)); replace hb0 := hb0.grown hgr hb0.size (fun k hk => by injection hk with hk; omega); clear hgr hsz m6))
    go_roundw
    case rel => exact ⟨k + 1, hkm.out, by have := hj.out; have := hkm.out; congr 1; omega, ⟨a3, b3, c3, m7, by rw [upto_succ, mulS_snoc, hdn'.out]; exact hR3.out⟩, k5, k3, k4, hb0⟩
    case measure => have := hj.out; first | (simp [intOf]; done) | (simp [intOf]; omega)
set_option maxRecDepth 20000 in
set_option maxHeartbeats 4000000 in
/-- the law's bits of 32 bytes -/
theorem lbits_c (g o c : Nat) (b : Nat → Int) (hr : ∀ j, 0 ≤ b j ∧ b j < 256) (w : World) (hg : g < w.heap.size) (hc : ∀ j, j < 32 → w.cell? ⟨g, o + j, none⟩ = some (.int .u8 (b j))) :
    Calls Tryd.prog 49 #[.slice (some ⟨g, o, none⟩) 32 c] w (PostBits b w) := by
  replace hc := Lib.hid hc
  replace hr := Lib.hid hr
  have hfin : ∀ v w', World.ownsRow w' w.heap.size 4 1 v 256 ((upto (bitB b) 256).map Value.bool) → Below w.heap.size w w' → PostBits b w (.returned v) w' := fun v w' hown hb => by
    obtain ⟨g', c', rfl⟩ := ownsRow_succ hown
    refine ⟨g', c', (hown.lt g' rfl).1, rfl, hown, fun k hk => ?_, hb⟩
    have := hown.cells (g := g') rfl k (.bool (bitB b k)) (by rw [List.getElem?_map, upto_get _ _ _ hk]; rfl)
    rw [add_o, Nat.zero_add] at this
    exact this
  replace hfin := Lib.hid hfin
  have hg0 := Lib.hid hg
  clear hg
  go_enter Tryd.func49, Tryd.ntmps49
  go_wp2
  go_loopw [3, 4] (fun v i wr => ∃ k : Nat, k ≤ 256 ∧ i = .int .i64 k ∧ wr.ownsRow w.heap.size 4 1 v k ((upto (bitB b) k).map Value.bool) ∧ Below w.heap.size w wr) (fun _ i _ => (256 - intOf i).toNat)
  case atStart => exact ⟨0, by omega, rfl, World.ownsRow_nil _ _ _ _, Below.refl _ _⟩
  case round =>
    obtain ⟨k, hk, hi, hO, hb0⟩ := hrel
    subst hi
    by_cases he : k = 256
    · subst he
      have hP := Lib.hid (hfin.out _ _ hO hb0)
      clear hO hb0 hk
      go_wp2
      go_returns
      exact hP.out
    have hk0 : (0 : Int) ≤ (k : Int) := by omega
    have hk1 : (k : Int) < 256 := by omega
    have hcx : wr.cell? ⟨g, o + k / 8, none⟩ = some (.int .u8 (b (k / 8))) := (hb0.cell (p := ⟨g, o + k / 8, none⟩) hg0.out).trans (hc.out _ (by omega))
    have hbit := bit_eq hr.out k
    obtain ⟨x, hx⟩ : ∃ x, bitB b k = x := ⟨_, rfl⟩
    rw [hx] at hbit
    replace hx := Lib.hid hx
    replace hO := Lib.hid hO
    obtain ⟨i0, hi, hz0, hz1, hz2⟩ := info_parts bool_info
    clear he hk
    go_wp2_with (at_builtin; refine wpList_append_own _ rfl _ _ 68 rfl w.heap.size 4 i0 (.bool false) 1 1 bools_under hi hz0 hz1 hz2 rfl (by decide) _ _ _ rfl (ownsRow_below hO.out ((Below.refl _ _).alloc (Nat.le_refl _) _)) ⟨wr.heap.size, 0, none⟩ 1 1 [.bool x] rfl rfl (cell_one_new _ _ _) (by simp [Value.oneCell']) (by unfold maxLen; omega) (by omega) (by have := hb0.size; simp; omega) ?_; intro v' w4 hO4 hgr hiff)
    have hgr' : (wr.alloc (.cells #[.bool x] 4)).grownBy w4 u3.ownBlock := hgr
    have hb4 : Below w.heap.size w w4 := by
      refine ((hb0.alloc hb0.size _)).grown hgr' (by rw [World.size_alloc]; have := hb0.size; omega) (fun kk hk => ?_)
      rcases hO.out with ⟨_, h | ⟨g', cap, cur, h1, h2, h3⟩⟩
      · rw [h.1] at hk; simp [Value.ownBlock] at hk
      rw [h1] at hk
      simp only [Value.ownBlock] at hk
      injection hk
      omega
    clear hgr'
    clear hgr hiff hi hz0 hz1 hz2 hcx hbit hO hb0
    replace hO4 := Lib.hid hO4
    go_wp2
    go_roundw
    case rel => exact ⟨k + 1, by omega, by simp, by rw [upto_succ, List.map_append, hx.out]; exact hO4.out, hb4⟩
    case measure => simp [intOf]; omega
end Go.Proofs.YtpaldgajkhmhbaaDoor

namespace Go.Proofs.YtpaldgajkhmhbaaDoor
open Go.RowKit Go.Shelf
attribute [local go_sem] Oper.semAt_some
theorem back1_none (F : Fence) (n : Nat) (hf : F.fn 95) (hro : F.round = none) (_ : 1 ≤ n) (l Bs : Nat) (J Jx : List (Nat × Bool) → World → Prop)
    (W : World) (hBs : W.cell? ⟨Bs, 0, none⟩ = some (.slice none 0 0)) (h0 : J [] W) :
    CallsIn F n Tryd.prog 95 #[.func (.yield l) #[] #[], .pointer (some ⟨Bs, 0, none⟩)] W fun e W' => (∃ v, e = .returned v) ∧
      ((∃ ys, ys = ([] : List (Nat × Bool)) ∧ J ys W') ∨ (∃ pre, True ∧ Jx pre W')) := by
  refine callsIn_of_wp Tryd.func95 rfl hf ?_ hro
  simp only [Tryd.ntmps95, List.size_toArray, List.length_cons, List.length_nil, Nat.reduceAdd, Nat.reduceSub, Array.replicate_succ, Array.replicate_zero, List.push_toArray, List.append_toArray, List.nil_append, List.cons_append]
  gi_wp2
  gi_loopw [3] (fun i wr => i = .int .i64 (-1) ∧ wr = W) (fun _ _ => 0)
  case atStart => exact ⟨rfl, rfl⟩
  case round =>
    obtain ⟨rfl, rfl⟩ := hrel
    gi_wp2
    go_end0
    exact ⟨⟨_, rfl⟩, .inl ⟨_, rfl, h0⟩⟩
theorem back_none (F : Fence) (n : Nat) (hf : F.fn 95) (hro : F.round = none) (hn : 1 ≤ n) (Bs : Nat) (w : World) (hB : Bs < w.heap.size)
    (hBs : w.cell? ⟨Bs, 0, none⟩ = some (.slice none 0 0)) :
    SeqStopsK F n Tryd.prog 95 #[.pointer (some ⟨Bs, 0, none⟩)] (fun x : Nat × Bool => #[.int .i64 (x.1 : Int), .bool x.2]) (KpB Bs Bs) (fun ys => ys = ([] : List (Nat × Bool))) (fun _ => True) 0 w := fun l J Jx W hW _ _ _ h0 =>
  back1_none F n hf hro hn l Bs J Jx W ((hW.cell (p := ⟨Bs, 0, none⟩) hB).trans hBs) h0
set_option maxRecDepth 100000 in
set_option maxHeartbeats 4000000 in
theorem pmul_x (p0 : Option Addr) (n0 c : Nat) (hn : n0 ≠ 32) {X Y Z T : Fe.E} {x y : Fin Fe.P} (w : World) (hp : PtE X Y Z T x y) (hCv : CvP w) :
    Calls Tryd.prog 45 #[.slice p0 n0 c, .agg (pcs X Y Z T)] w (PostQ 0 1 w) := by
  refine (callsIn_wide (n := 3)).1 ?_
  have hro : Fence.wide.round = none := rfl
  have h1 : 1 ≤ 3 := by decide
  have hbits := Lib.hid (fun w1 => sbits_x p0 n0 c hn w1)
  replace hp := Lib.hid hp
  replace hCv := Lib.hid hCv
  simp only [pcs]
  refine callsIn_of_wp_marks Tryd.func45 rfl trivial ?_ hro
  simp only [Tryd.ntmps45, List.size_toArray, List.length_cons, List.length_nil, Nat.reduceAdd, Nat.reduceSub, Array.replicate_succ, Array.replicate_zero, List.push_toArray, List.append_toArray, List.nil_append, List.cons_append]
  gi_wp2_with fail
  refine ⟨trivial, callsIn_at (fun W0 hW => ?_)⟩
  have kB : Blk W0 w.heap.size 29 (pcs X Y Z T) := by rw [hW]; exact (Blk.new _ _ _).alloc _
  have k0 : Blk W0 (w.heap.size + 1) 29 (pcs ⟨0, 0, 0, 0, 0⟩ ⟨0, 0, 0, 0, 0⟩ ⟨0, 0, 0, 0, 0⟩ ⟨0, 0, 0, 0, 0⟩) := by rw [hW]; exact blk_at (by simp) (Blk.new _ _ _)
  have hb0 : Below w.heap.size w W0 := by rw [hW]; go_grown
  clear hW
  obtain ⟨G0, hG0⟩ : ∃ G0, G0 = w.heap.size + 1 := ⟨_, rfl⟩
  rw [← hG0] at k0 ⊢
  obtain ⟨GB, hGB⟩ : ∃ GB, GB = w.heap.size := ⟨_, rfl⟩
  rw [← hGB] at kB ⊢
  have loB : w.heap.size ≤ GB := by omega
  have lo0 : w.heap.size ≤ G0 := by omega
  have nB0 : GB ≠ G0 := by omega
  clear hG0 hGB
  obtain ⟨V1, hV1⟩ : ∃ V : Value, V = .agg #[.int .u64 X.a0, .int .u64 X.a1, .int .u64 X.a2, .int .u64 X.a3, .int .u64 X.a4, .int .u64 Y.a0, .int .u64 Y.a1, .int .u64 Y.a2, .int .u64 Y.a3, .int .u64 Y.a4, .int .u64 Z.a0, .int .u64 Z.a1, .int .u64 Z.a2, .int .u64 Z.a3, .int .u64 Z.a4, .int .u64 T.a0, .int .u64 T.a1, .int .u64 T.a2, .int .u64 T.a3, .int .u64 T.a4] := ⟨_, rfl⟩
  rw [← hV1]
  clear hV1
  refine (callsIn_wide.2 (zero4_c _)).mono ?_
  rintro e w1 ⟨rfl, hb⟩
  have l0 := k0.lt
  replace kB := kB.below hb
  replace k0 := k0.below hb
  replace hb0 := hb0.trans (hb.mono hb0.size)
  clear hb l0
  have l0 := k0.lt
  have lB := kB.lt
  gi_wp2_with (first | (refine inSt (cells := pcs ⟨0, 0, 0, 0, 0⟩ ⟨1, 0, 0, 0, 0⟩ ⟨1, 0, 0, 0, 0⟩ ⟨0, 0, 0, 0, 0⟩) (fun _ => trivial) rfl 100 rfl rfl rfl (Blk.new _ _ _) rfl sm_size (pcs_one _ _ _ _) ?_; intro W1 kS1 hgr hsz; obtain ⟨V6, hV6⟩ : ∃ V : Value, V = .agg #[.int .u64 0, .int .u64 0, .int .u64 0, .int .u64 0, .int .u64 0, .int .u64 1, .int .u64 0, .int .u64 0, .int .u64 0, .int .u64 0, .int .u64 1, .int .u64 0, .int .u64 0, .int .u64 0, .int .u64 0, .int .u64 0, .int .u64 0, .int .u64 0, .int .u64 0, .int .u64 0] := ⟨_, rfl⟩; rw [← hV6]; clear hV6))
  refine ⟨trivial, ?_⟩
  have kS : SumQ W1 w1.heap.size (mulS x y []).1 (mulS x y []).2 := ⟨_, _, _, _, kS1, ptE_zero⟩
  have hb : Below w1.heap.size w1 W1 := ((Below.refl _ _).alloc (Nat.le_refl _) _).grown hgr (by rw [World.size_alloc]; omega) (fun k hk => by injection hk with hk; omega)
  clear hgr hsz kS1 l0 lB
  obtain ⟨GS, hGS⟩ : ∃ GS, GS = w1.heap.size := ⟨_, rfl⟩
  rw [← hGS] at kS ⊢
  have nBS : GB ≠ GS := by have := kB.lt; omega
  have n0S : G0 ≠ GS := by have := k0.lt; omega
  have loS : w.heap.size ≤ GS := by have := hb0.size; omega
  replace kB := kB.below hb
  replace k0 := k0.below hb
  replace hb0 := hb0.trans (hb.mono hb0.size)
  clear hb hGS
  refine (callsIn_wide.2 (hbits.out W1)).mono ?_
  rintro e w2 ⟨rfl, rfl⟩
  clear hbits
  gi_wp2_with fail
  refine ⟨trivial, (callsIn_wide.2 (back_c _ _ _ _)).mono ?_⟩
  rintro e w3 ⟨rfl, hW⟩
  have hb : Below W1.heap.size W1 w3 := by rw [hW]; exact (Below.refl _ _).alloc (Nat.le_refl _) _
  have hBs : w3.cell? ⟨W1.heap.size, 0, none⟩ = some (.slice none 0 0) := by rw [hW]; exact (Boxed.new W1 _ _).cell
  have hsz : w3.heap.size = W1.heap.size + 1 := by rw [hW, World.size_alloc]
  clear hW
  replace kB := kB.below hb
  replace k0 := k0.below hb
  have nSs : W1.heap.size ≠ GS := by have := kS.lt; omega
  replace kS := kS.below hb
  replace hb0 := hb0.trans (hb.mono hb0.size)
  clear hb
  obtain ⟨Bs, hBx⟩ : ∃ Bs, Bs = W1.heap.size := ⟨_, rfl⟩
  rw [← hBx] at hBs nSs ⊢
  have ltB : Bs < w3.heap.size := by omega
  clear hsz hBx
  have lts := kS.lt
  have hC3 := Lib.hid (hCv.out.below hb0 hCv.out.lt)
  gi_wp2
  refine wpIn_rangeFunc_ownG hro h1 (gf := 95) (lb := #[.pointer (some ⟨Bs, 0, none⟩)]) rfl trivial (enters_of Tryd.func95 (by kernel_rfl) rfl)
    (back_none Fence.wide (3 - 1) trivial hro (by decide) Bs w3 ltB hBs) KpB.trans (fun W l o o' hl h _ _ => KpB.putObj ltB ltB hl h) (Below.refl _ _) (fun _ => rfl)
    (fun pre W => SumQ W GS (mulS x y pre).1 (mulS x y pre).2 ∧ Blk W GB 29 (pcs X Y Z T) ∧ Blk W G0 29 (pcs ⟨0, 0, 0, 0, 0⟩ ⟨0, 0, 0, 0, 0⟩ ⟨0, 0, 0, 0, 0⟩ ⟨0, 0, 0, 0, 0⟩) ∧ Below w.heap.size w W ∧ w3.heap.size ≤ W.heap.size)
    (fun _ _ _ => False)
    (fun s A B row hs hg hr => ⟨hs.1.grown hg (fun e => by have := (hr _ e.symm).1; omega), hs.2.1.grown hg (fun e => by have := (hr _ e.symm).1; have := kB.lt; omega), hs.2.2.1.grown hg (fun e => by have := (hr _ e.symm).1; have := k0.lt; omega), hs.2.2.2.1.grown hg hs.2.2.2.1.size (fun k e => by have := (hr _ e).1; have := hb0.size; omega), Nat.le_trans hs.2.2.2.2 hg.size⟩)
    (fun _ _ _ _ _ hs _ _ => hs)
    ⟨kS, kB, k0, hb0, Nat.le_refl _⟩
    (fun x => { tmps := #[.slice p0 n0 c, V1, undef, .pointer (some ⟨GB, 0, none⟩), .pointer (some ⟨G0, 0, none⟩), .pointer (some ⟨GS, 0, none⟩), undef, .bool x.2, V6, V6, .slice p0 n0 c, .slice none 0 0, .func (.func 95) #[] #[.pointer (some ⟨Bs, 0, none⟩)], .int .i64 (x.1 : Int), .bool x.2, undef, undef, undef, undef, undef, undef], defers := [] }) ?assign ?body ?done ?stop
  case assign =>
    intro l x W K hK
    gi_wp2
    exact hK
  case body =>
    rintro l pre ⟨xi, xb⟩ W _ hlt
    exact absurd hlt (Nat.not_lt_zero _)
  case done =>
    rintro D ys W hD hys ⟨hS, hB, h0, hb, hs⟩ hK
    subst hys
    obtain ⟨X2, Y2, Z2, T2, kS2, hE⟩ := hS
    replace hE := Lib.hid hE
    gi_wp2_with (first | (refine inLdPt (fun _ => trivial) rfl rfl rfl kS2 ?_) | (refine inSt (fun _ => trivial) rfl 29 rfl rfl rfl h0 rfl pt_size (pcs_one _ _ _ _) ?_; intro W4 k4 hgr hsz))
    have ltD : D < W.heap.size := (Array.getElem?_eq_some_iff.1 hK).1
    have hK4 : W4.heap[D]? = some (.deferred (some [])) := (hgr.block D ltD (fun e => by injection e with e; have := k0.lt; omega)).trans hK
    have hb4 : Below w.heap.size w W4 := hb.grown hgr hb.size (fun k e => by injection e with e; omega)
    have ltD4 : D < W4.heap.size := (Array.getElem?_eq_some_iff.1 hK4).1
    refine ⟨by simp, .inl ⟨_, _, rfl, run_takeDeferred hK4, ?_⟩⟩
    obtain ⟨d, hd, hs2⟩ := pt_under
    have k5 : Blk (W4.putObj D (.deferred none)) G0 29 (pcs X2 Y2 Z2 T2) := k4.grown (grownBy_putObj' W4 D (.deferred none)) (fun e => by injection e with e; have := k0.lt; omega)
    refine ⟨.agg (pcs X2 Y2 Z2 T2), results_cell_row rfl _ _ G0 29 (pcs X2 Y2 Z2 T2) (0, 0) d rfl k5 hd (by revert hs2; cases d <;> exact fun h => h) pt_size, ?_⟩
    exact ⟨X2, Y2, Z2, T2, rfl, hE.out, hb4.grown (grownBy_putObj' W4 D (.deferred none)) hb4.size (fun k e => by injection e with e; have := hb0.size; omega)⟩
  case stop =>
    rintro D c pre W _ _ h _
    exact h.elim
end Go.Proofs.YtpaldgajkhmhbaaDoor

namespace Fe
open Go.Proofs.YtpaldgajkhmhbaaDoor
/-- after the k highest of m bits: twice, a point where the bit says so, another one where its bit says so -/
def bothS (x y xb yb : Fin P) (A B : Nat → Bool) (m : Nat) : Nat → Fin P × Fin P
  | 0 => (0, 1)
  | k + 1 => if B (m - 1 - k) then (ax (stepF x y (bothS x y xb yb A B m k) (A (m - 1 - k))).1 (stepF x y (bothS x y xb yb A B m k) (A (m - 1 - k))).2 xb yb, ay (stepF x y (bothS x y xb yb A B m k) (A (m - 1 - k))).1 (stepF x y (bothS x y xb yb A B m k) (A (m - 1 - k))).2 xb yb) else stepF x y (bothS x y xb yb A B m k) (A (m - 1 - k))
/-- the same of one point -/
def oneS (x y : Fin P) (A : Nat → Bool) (m : Nat) : Nat → Fin P × Fin P
  | 0 => (0, 1)
  | k + 1 => stepF x y (oneS x y A m k) (A (m - 1 - k))
theorem oneS_mul (x y : Fin P) (A : Nat → Bool) (m : Nat) : ∀ k, oneS x y A m k = mulS x y (upto (fun i => (m - 1 - i, A (m - 1 - i))) k)
  | 0 => rfl
  | k + 1 => by rw [upto_succ, mulS_snoc, ← oneS_mul x y A m k]; rfl
theorem cv_step {x y : Fin P} {s : Fin P × Fin P} (h : Cv x y) (hs : Cv s.1 s.2) (b : Bool) : Cv (stepF x y s b).1 (stepF x y s b).2 := by
  unfold stepF
  cases b
  · exact cv_add hs hs
  exact cv_add (cv_add hs hs) h
theorem cv_one {x y : Fin P} (h : Cv x y) (A : Nat → Bool) (m : Nat) : ∀ k, Cv (oneS x y A m k).1 (oneS x y A m k).2
  | 0 => cv_zero
  | k + 1 => cv_step h (cv_one h A m k) _
theorem ax_z (x y : Fin P) : ax 0 1 x y = x := by rw [ax_comm, ax_zero]
theorem ay_z (x y : Fin P) : ay 0 1 x y = y := by rw [ay_comm, ay_zero]
/-- none of the bits -/
theorem oneS_none (x y : Fin P) (m : Nat) : ∀ k, oneS x y (fun _ => false) m k = (0, 1)
  | 0 => rfl
  | k + 1 => by
    show stepF x y (oneS x y (fun _ => false) m k) false = (0, 1)
    rw [oneS_none x y m k]
    unfold stepF
    rw [if_neg (by decide), ax_z, ay_z]
/-- the group's law in pairs -/
def gad (p q : Fin P × Fin P) : Fin P × Fin P := (ax p.1 p.2 q.1 q.2, ay p.1 p.2 q.1 q.2)
def On2 (p : Fin P × Fin P) : Prop := Cv p.1 p.2
theorem gad_on {p q : Fin P × Fin P} (h : On2 p) (k : On2 q) : On2 (gad p q) := cv_add h k
theorem gad_comm (p q : Fin P × Fin P) : gad p q = gad q p := Prod.ext (ax_comm _ _ _ _) (ay_comm _ _ _ _)
theorem gad_assoc {p q r : Fin P × Fin P} (h : On2 p) (k : On2 q) (l : On2 r) : gad (gad p q) r = gad p (gad q r) := Prod.ext (ax_assoc h k l) (ay_assoc h k l)
theorem gad_swap {p q r s : Fin P × Fin P} (hp : On2 p) (hq : On2 q) (hr : On2 r) (hs : On2 s) : gad (gad p q) (gad r s) = gad (gad p r) (gad q s) := by
  rw [gad_assoc hp hq (gad_on hr hs), ← gad_assoc hq hr hs, gad_comm q r, gad_assoc hr hq hs, ← gad_assoc hp hr (gad_on hq hs)]
theorem step_gad (x y : Fin P) (s : Fin P × Fin P) (b : Bool) : stepF x y s b = if b then gad (gad s s) (x, y) else gad s s := rfl
theorem both_sum {x y xb yb : Fin P} (h : Cv x y) (hb : Cv xb yb) (A B : Nat → Bool) (m : Nat) : ∀ k, bothS x y xb yb A B m k = gad (oneS x y A m k) (oneS xb yb B m k)
  | 0 => (Prod.ext (ax_zero _ _) (ay_zero _ _)).symm
  | k + 1 => by
    have ih := both_sum h hb A B m k
    have hu : On2 (oneS x y A m k) := cv_one h A m k
    have hv : On2 (oneS xb yb B m k) := cv_one hb B m k
    show (if B (m - 1 - k) then gad (stepF x y (bothS x y xb yb A B m k) (A (m - 1 - k))) (xb, yb) else stepF x y (bothS x y xb yb A B m k) (A (m - 1 - k))) = gad (stepF x y (oneS x y A m k) (A (m - 1 - k))) (stepF xb yb (oneS xb yb B m k) (B (m - 1 - k)))
    rw [ih, step_gad, step_gad, step_gad]
    generalize oneS x y A m k = u at *
    generalize oneS xb yb B m k = v at *
    have hx : On2 (x, y) := h
    have hxb : On2 (xb, yb) := hb
    generalize (x, y) = p at *
    generalize (xb, yb) = q at *
    rw [gad_swap hu hv hu hv]
    have huu := gad_on hu hu
    have hvv := gad_on hv hv
    have e1 : gad (gad (gad u u) (gad v v)) p = gad (gad (gad u u) p) (gad v v) := by rw [gad_assoc huu hvv hx, gad_comm (gad v v) p, ← gad_assoc huu hx hvv]
    cases A (m - 1 - k) <;> cases B (m - 1 - k) <;> simp only [if_true, if_false, Bool.false_eq_true]
    · rw [gad_assoc huu hvv hxb]
    · rw [e1]
    rw [e1, gad_assoc (gad_on huu hx) hvv hxb]
end Fe
namespace Go.Proofs.YtpaldgajkhmhbaaDoor
open Go.RowKit
theorem int_under' : Tryd.prog.underlying 3 = some (.int .i64) := by kernel_rfl
theorem run_app0b (w : World) (ty : TypeId) (p : Option Addr) (n c : Nat) (hnc : n ≤ c) : (Builtin.append_ #[68, 3] ty #[.slice p n c, .int .i64 0]).run Tryd.prog w = .ok (.slice p n c) w := by
  obtain ⟨i, hi, hz, hsz, hby⟩ := info_parts bool_info
  have hw : IntKind.i64.wrap (0 : Int) = 0 := by decide
  simp [Builtin.append_, run_underlying bools_under, run_underlying int_under', sizeOf, typeInfo, zeroValue, hi, hz, hsz, asInt, asIntOf, hw, hnc]
  cases p <;> simp [storeCells]
theorem run_app256b (w : World) (ty : TypeId) : ∃ cap w', (Builtin.append_ #[68, 3] ty #[.slice none 0 0, .int .i64 256]).run Tryd.prog w = .ok (.slice (some ⟨w.heap.size, 0, none⟩) 256 cap) w' ∧ Below w.heap.size w w' ∧ ∀ j, j < 256 → w'.cell? ⟨w.heap.size, j, none⟩ = some (.bool false) := by
  obtain ⟨i, hi, hz, hsz, hby⟩ := info_parts bool_info
  refine ⟨_, _, Lib.run_append_nil_zeros w 68 3 ty 4 i (.bool false) .i64 .i64 bools_under int_under' hi hz 256 (by decide) (by rw [hsz]; decide) (by decide) (by rw [hby]; decide), (Below.refl _ w).drew.alloc (Nat.le_refl _) _, fun j hj => ?_⟩
  have hh := heap_alloc_new w.drew (.cells (Builtin.zeroCells (Value.bool false).cells 256 ++ Builtin.zeroCells (Value.bool false).cells (grownCap w 256 0 4 - 256)) 4)
  rw [cell_of_row _ w.heap.size j _ 4 (0, 0) hh, Array.getElem?_append_left (by simp [Builtin.zeroCells, Value.cells]; omega)]
  simp [Builtin.zeroCells, Value.cells, hj, Nat.mod_one]
set_option maxRecDepth 20000 in
set_option maxHeartbeats 8000000 in
theorem both_ss (g1 o1 c1 : Nat) (b1 : Nat → Int) (hr1 : ∀ j, 0 ≤ b1 j ∧ b1 j < 256) (g2 o2 c2 : Nat) (b2 : Nat → Int) (hr2 : ∀ j, 0 ≤ b2 j ∧ b2 j < 256) {X Y Z T : Fe.E} {x y : Fin Fe.P} (w : World) (hg1 : g1 < w.heap.size) (hc1 : ∀ j, j < 32 → w.cell? ⟨g1, o1 + j, none⟩ = some (.int .u8 (b1 j))) (hg2 : g2 < w.heap.size) (hc2 : ∀ j, j < 32 → w.cell? ⟨g2, o2 + j, none⟩ = some (.int .u8 (b2 j))) (hp : PtE X Y Z T x y) (hCv : CvP w) :
    Calls Tryd.prog 46 #[.slice (some ⟨g1, o1, none⟩) 32 c1, .agg (pcs X Y Z T), .slice (some ⟨g2, o2, none⟩) 32 c2] w (PostQ (Fe.bothS x y (Fe.zf Fe.bX) (Fe.zf Fe.bY) (bitB b1) (bitB b2) 256 256).1 (Fe.bothS x y (Fe.zf Fe.bX) (Fe.zf Fe.bY) (bitB b1) (bitB b2) 256 256).2 w) := by
  have hbx1 := Lib.hid (fun w1 (hb : Below w.heap.size w w1) => sbits_c g1 o1 c1 b1 hr1 w1 (Nat.lt_of_lt_of_le hg1 hb.size) (fun j hj => (hb.cell (p := ⟨g1, o1 + j, none⟩) hg1).trans (hc1 j hj)))
  clear hr1 hg1 hc1
  have hbx2 := Lib.hid (fun w1 (hb : Below w.heap.size w w1) => sbits_c g2 o2 c2 b2 hr2 w1 (Nat.lt_of_lt_of_le hg2 hb.size) (fun j hj => (hb.cell (p := ⟨g2, o2 + j, none⟩) hg2).trans (hc2 j hj)))
  clear hr2 hg2 hc2
  obtain ⟨xb, hxb⟩ : ∃ v, Fe.zf Fe.bX = v := ⟨_, rfl⟩
  obtain ⟨yb, hyb⟩ : ∃ v, Fe.zf Fe.bY = v := ⟨_, rfl⟩
  have hbase := base_c
  rw [hxb, hyb] at hbase ⊢
  replace hbase := Lib.hid hbase
  clear hxb hyb
  obtain ⟨A, hA⟩ : ∃ A : Nat → Bool, A = (bitB b1) := ⟨_, rfl⟩
  obtain ⟨B, hB⟩ : ∃ B : Nat → Bool, B = (bitB b2) := ⟨_, rfl⟩
  rw [← hA, ← hB]
  replace hB := Lib.hid hB
  replace hA := Lib.hid hA
  replace hp := Lib.hid hp
  replace hCv := Lib.hid hCv
  obtain ⟨S, hS⟩ : ∃ S, S = Fe.bothS x y xb yb A B 256 := ⟨_, rfl⟩
  rw [← hS]
  have hS0 : S 0 = (0, 1) := by rw [hS]; rfl
  have hS1 : ∀ k, S (k + 1) = if B (256 - 1 - k) then (Fe.ax (stepF x y (S k) (A (256 - 1 - k))).1 (stepF x y (S k) (A (256 - 1 - k))).2 xb yb, Fe.ay (stepF x y (S k) (A (256 - 1 - k))).1 (stepF x y (S k) (A (256 - 1 - k))).2 xb yb) else stepF x y (S k) (A (256 - 1 - k)) := fun k => by rw [hS]; rfl
  clear hS
  replace hS0 := Lib.hid hS0
  replace hS1 := Lib.hid hS1
  go_enter Tryd.func46, Tryd.ntmps46
  go_wp2_with fail
  refine calls_at (fun W0 hW => ?_)
  have k4 : Blk W0 w.heap.size 29 (pcs X Y Z T) := by rw [hW]; exact (Blk.new _ _ _).alloc _
  have k6 : Blk W0 (w.heap.size + 1) 29 (pcs ⟨0, 0, 0, 0, 0⟩ ⟨0, 0, 0, 0, 0⟩ ⟨0, 0, 0, 0, 0⟩ ⟨0, 0, 0, 0, 0⟩) := by rw [hW]; exact blk_at (by simp) (Blk.new _ _ _)
  have hb0 : Below w.heap.size w W0 := by rw [hW]; go_grown
  clear hW
  obtain ⟨G6, hG6⟩ : ∃ G, G = w.heap.size + 1 := ⟨_, rfl⟩
  obtain ⟨G4, hG4⟩ : ∃ G, G = w.heap.size := ⟨_, rfl⟩
  rw [← hG6] at k6 ⊢
  rw [← hG4] at k4 ⊢
  have lo6 : w.heap.size ≤ G6 := by omega
  clear hG4 hG6
  refine (hbx1.out W0 hb0).mono ?_
  rintro e v1 ⟨r1, cr1, hlo, rfl, hown, hrow1, hb⟩
  have hcr1 : 256 ≤ cr1 := by
    rcases hown with ⟨_, h | ⟨g', cap, cur, h1, h2, h3, h4, h5, h6, h7⟩⟩
    · exact absurd h.2 (by decide)
    injection h1 with _ _ h8
    omega
  clear hown
  have ltr1 : r1 < v1.heap.size := (Nat.lt_or_ge r1 v1.heap.size).elim id (fun h => by
    have := hrow1 0 (by decide)
    simp only [World.cell?, Array.getElem?_eq_none h] at this
    cases this)
  clear hlo hbx1
  replace k4 := k4.below hb
  replace k6 := k6.below hb
  replace hb0 := hb0.trans (hb.mono hb0.size)
  clear hb
  replace hrow1 := Lib.hid hrow1
  go_wp2_with fail
  refine (hbx2.out v1 hb0).mono ?_
  rintro e v2 ⟨r2, cr2, hlo, rfl, hown, hrow2, hb⟩
  have hcr2 : 256 ≤ cr2 := by
    rcases hown with ⟨_, h | ⟨g', cap, cur, h1, h2, h3, h4, h5, h6, h7⟩⟩
    · exact absurd h.2 (by decide)
    injection h1 with _ _ h8
    omega
  clear hown
  have ltr2 : r2 < v2.heap.size := (Nat.lt_or_ge r2 v2.heap.size).elim id (fun h => by
    have := hrow2 0 (by decide)
    simp only [World.cell?, Array.getElem?_eq_none h] at this
    cases this)
  clear hlo hbx2
  replace k4 := k4.below hb
  replace k6 := k6.below hb
  replace hb0 := hb0.trans (hb.mono hb0.size)
  replace hrow1 := Lib.hid (fun j hj => (hb.cell (p := ⟨r1, j, none⟩) ltr1).trans (hrow1.out j hj))
  replace ltr1 : r1 < v2.heap.size := Nat.lt_of_lt_of_le ltr1 hb.size
  clear hb
  replace hrow2 := Lib.hid hrow2
  go_wp2_with (first | (at_builtin; refine Lib.wpList_append_run _ rfl _ _ _ _ rfl _ _ rfl rfl _ _ (run_app0b _ _ _ _ _ (by omega)) ?_))
  have hq1 : ∀ j, j < 256 → v2.cell? ⟨r1, j, none⟩ = some (.bool (A j)) := fun j hj => by rw [hA.out]; exact hrow1.out j hj
  have hq2 : ∀ j, j < 256 → v2.cell? ⟨r2, j, none⟩ = some (.bool (B j)) := fun j hj => by rw [hB.out]; exact hrow2.out j hj
  clear hrow1 hrow2
  replace hq1 := Lib.hid hq1
  replace hq2 := Lib.hid hq2
  clear hA hB
  refine (hbase.out v2 (hCv.out.below hb0 hCv.out.lt)).mono ?_
  rintro e v3 ⟨X2, Y2, Z2, T2, rfl, hE2, hb⟩
  replace hE2 := Lib.hid hE2
  replace k4 := k4.below hb
  replace k6 := k6.below hb
  replace hb0 := hb0.trans (hb.mono hb0.size)
  replace hq1 := Lib.hid (fun j hj => (hb.cell (p := ⟨r1, j, none⟩) ltr1).trans (hq1.out j hj))
  replace hq2 := Lib.hid (fun j hj => (hb.cell (p := ⟨r2, j, none⟩) ltr2).trans (hq2.out j hj))
  replace ltr1 := Nat.lt_of_lt_of_le ltr1 hb.size
  replace ltr2 := Nat.lt_of_lt_of_le ltr2 hb.size
  clear hb hbase
  have k4lt := k4.lt
  have k6lt := k6.lt
  go_wp2_with (refine stPt rfl rfl rfl rfl (Blk.new _ _ _) rfl rfl (by kernel_rfl) ?_; intro v4 k9 hgr hsz)
  have hb : Below v3.heap.size v3 v4 := ((Below.refl _ _).alloc (Nat.le_refl _) _).grown hgr (by rw [World.size_alloc]; omega) (fun k hk => by injection hk with hk; omega)
  obtain ⟨G9, hG9⟩ : ∃ G, G = v3.heap.size := ⟨_, rfl⟩
  rw [← hG9] at k9 ⊢
  clear hG9 hgr hsz k4lt k6lt
  replace k4 := k4.below hb
  replace k6 := k6.below hb
  replace hb0 := hb0.trans (hb.mono hb0.size)
  replace hq1 := Lib.hid (fun j hj => (hb.cell (p := ⟨r1, j, none⟩) ltr1).trans (hq1.out j hj))
  replace hq2 := Lib.hid (fun j hj => (hb.cell (p := ⟨r2, j, none⟩) ltr2).trans (hq2.out j hj))
  replace ltr1 := Nat.lt_of_lt_of_le ltr1 hb.size
  replace ltr2 := Nat.lt_of_lt_of_le ltr2 hb.size
  clear hb
  refine (zero4_c _).mono ?_
  rintro e v5 ⟨rfl, hb⟩
  replace k4 := k4.below hb
  replace k6 := k6.below hb
  replace k9 := k9.below hb
  replace hb0 := hb0.trans (hb.mono hb0.size)
  replace hq1 := Lib.hid (fun j hj => (hb.cell (p := ⟨r1, j, none⟩) ltr1).trans (hq1.out j hj))
  replace hq2 := Lib.hid (fun j hj => (hb.cell (p := ⟨r2, j, none⟩) ltr2).trans (hq2.out j hj))
  replace ltr1 := Nat.lt_of_lt_of_le ltr1 hb.size
  replace ltr2 := Nat.lt_of_lt_of_le ltr2 hb.size
  clear hb
  have hlt := k6.lt
  have hlt4 := k4.lt
  have hlt9 := k9.lt
  go_wp2_with (refine stSm (X := ⟨0, 0, 0, 0, 0⟩) (Y := ⟨1, 0, 0, 0, 0⟩) (Z := ⟨1, 0, 0, 0, 0⟩) (T := ⟨0, 0, 0, 0, 0⟩) rfl rfl rfl rfl (Blk.new _ _ _) rfl ?_; intro v6 kS1 hgr hsz; obtain ⟨V6, hV6⟩ : ∃ V : Value, V = .agg #[.int .u64 0, .int .u64 0, .int .u64 0, .int .u64 0, .int .u64 0, .int .u64 1, .int .u64 0, .int .u64 0, .int .u64 0, .int .u64 0, .int .u64 1, .int .u64 0, .int .u64 0, .int .u64 0, .int .u64 0, .int .u64 0, .int .u64 0, .int .u64 0, .int .u64 0, .int .u64 0] := ⟨_, rfl⟩; rw [← hV6]; clear hV6)
  have hb : Below v5.heap.size v5 v6 := ((Below.refl _ _).alloc (Nat.le_refl _) _).grown hgr (by rw [World.size_alloc]; omega) (fun k hk => by injection hk with hk; omega)
  have kS : SumQ v6 v5.heap.size (S 0).1 (S 0).2 := by rw [hS0.out]; exact ⟨_, _, _, _, kS1, ptE_zero⟩
  clear kS1 hgr hsz hS0
  obtain ⟨GS, hGS⟩ : ∃ GS, GS = v5.heap.size := ⟨_, rfl⟩
  rw [← hGS] at kS ⊢
  have n4S := Lib.hid (show GS ≠ G4 by omega)
  have n6S := Lib.hid (show GS ≠ G6 by omega)
  have n9S := Lib.hid (show GS ≠ G9 by omega)
  have loS : w.heap.size ≤ GS := by have := hb0.size; omega
  have nr1 := Lib.hid (show r1 ≠ GS by omega)
  have nr2 := Lib.hid (show r2 ≠ GS by omega)
  replace k4 := k4.below hb
  replace k6 := k6.below hb
  replace k9 := k9.below hb
  replace hb0 := hb0.trans (hb.mono hb0.size)
  replace hq1 := Lib.hid (fun j hj => (hb.cell (p := ⟨r1, j, none⟩) ltr1).trans (hq1.out j hj))
  replace hq2 := Lib.hid (fun j hj => (hb.cell (p := ⟨r2, j, none⟩) ltr2).trans (hq2.out j hj))
  replace ltr1 := Nat.lt_of_lt_of_le ltr1 hb.size
  replace ltr2 := Nat.lt_of_lt_of_le ltr2 hb.size
  clear hb hGS hlt hlt4 hlt9
  replace kS := Lib.hid kS
  go_loopw [11] (fun i wr => ∃ k : Nat, k ≤ 256 ∧ i = .int .i64 (256 - 1 - k) ∧ SumQ wr GS (S k).1 (S k).2 ∧ Blk wr G4 29 (pcs X Y Z T) ∧ Blk wr G9 29 (pcs X2 Y2 Z2 T2) ∧ Blk wr G6 29 (pcs ⟨0, 0, 0, 0, 0⟩ ⟨0, 0, 0, 0, 0⟩ ⟨0, 0, 0, 0, 0⟩ ⟨0, 0, 0, 0, 0⟩) ∧ (∀ j, j < 256 → wr.cell? ⟨r1, j, none⟩ = some (.bool (A j))) ∧ (∀ j, j < 256 → wr.cell? ⟨r2, j, none⟩ = some (.bool (B j))) ∧ r1 < wr.heap.size ∧ r2 < wr.heap.size ∧ Below w.heap.size w wr) (fun i _ => (intOf i + 1).toNat)
  case atStart => exact ⟨0, by omega, by simp, kS.out, k4, k9, k6, hq1.out, hq2.out, ltr1, ltr2, hb0⟩
  case round =>
    clear kS k4 k9 k6 hb0 hq1 hq2 ltr1 ltr2
    obtain ⟨k, hk, hi, hS, k4, k9, k6, hq1, hq2, ltr1, ltr2, hb0⟩ := hrel
    subst hi
    by_cases he : k = 256
    · as_aux_lemma =>
      subst he
      obtain ⟨X3, Y3, Z3, T3, kS, hE⟩ := hS
      replace hE := Lib.hid hE
      clear hq1 hq2 ltr1 ltr2
      go_wp2_with (first | (refine ldPt rfl rfl rfl kS rfl ?_) | (refine stPt rfl rfl rfl rfl k6 rfl rfl (by kernel_rfl) ?_; intro w9 k7 hgr hsz))
      exact retPt rfl rfl k7 rfl rfl ⟨X3, Y3, Z3, T3, rfl, hE.out, hb0.grown hgr hb0.size (fun k hk => by injection hk with hk; omega)⟩
    · as_aux_lemma =>
      obtain ⟨j, hj⟩ : ∃ j, j = 255 - k := ⟨_, rfl⟩
      have hjn : j < 256 := by omega
      have hj1 : (j : Int) < 256 := by omega
      have hj0 : (0 : Int) ≤ (j : Int) := by omega
      have hij : (256 : Int) - 1 - k = (j : Int) := by omega
      rw [hij]
      have hSk := hS1.out k
      rw [show 256 - 1 - k = j by omega] at hSk
      have e1 := hq1 j hjn
      have e2 := hq2 j hjn
      have hkm : Hid (k < 256) := Lib.hid (by omega)
      have hjk : Hid (j = 255 - k) := Lib.hid hj
      clear he hk hij hj
      replace hSk := Lib.hid hSk
      replace hq1 := Lib.hid hq1
      replace hq2 := Lib.hid hq2
      have hkS := Lib.hid hS
      have gS := hS.lt
      have hC := hCv.out.below hb0 hCv.out.lt
      have loC : 1 < GS := by have := hCv.out.lt; omega
      clear hS
      go_wp2_with fail
      refine (tdbl_c GS wr hkS.out).mono ?_
      rintro e w5 ⟨rfl, hS5, hg⟩
      replace k4 := k4.grown hg (fun h => n4S.out (by injection h with h; exact h.symm))
      replace k9 := k9.grown hg (fun h => n9S.out (by injection h with h; exact h.symm))
      replace k6 := k6.grown hg (fun h => n6S.out (by injection h with h; exact h.symm))
      replace hb0 := hb0.grown hg hb0.size (fun k hk => by injection hk with hk; omega)
      replace hC := hC.grown hg loC
      replace e1 := (hg.cell_far ⟨r1, j, none⟩ ltr1 (fun e => nr1.out (Option.some.inj e))).trans e1
      replace e2 := (hg.cell_far ⟨r2, j, none⟩ ltr2 (fun e => nr2.out (Option.some.inj e))).trans e2
      replace hq1 := Lib.hid (fun j hj => (hg.cell_far ⟨r1, j, none⟩ ltr1 (fun e => nr1.out (Option.some.inj e))).trans (hq1.out j hj))
      replace hq2 := Lib.hid (fun j hj => (hg.cell_far ⟨r2, j, none⟩ ltr2 (fun e => nr2.out (Option.some.inj e))).trans (hq2.out j hj))
      replace ltr1 := Nat.lt_of_lt_of_le ltr1 hg.size
      replace ltr2 := Nat.lt_of_lt_of_le ltr2 hg.size
      clear hg gS hkS
      replace hS5 := Lib.hid hS5
      cases hAj : A j <;> cases hBj : B j <;> rw [hAj] at e1 <;> rw [hBj] at e2 <;> rw [hAj, hBj] at hSk
      · skip
        go_wp2
        go_roundw
        case rel => exact ⟨k + 1, hkm.out, by have := hjk.out; have := hkm.out; congr 1; omega, by rw [hSk.out]; exact hS5.out, k4, k9, k6, hq1.out, hq2.out, ltr1, ltr2, hb0⟩
        case measure => have := hjk.out; first | (simp [intOf]; done) | (simp [intOf]; omega)
      · skip
        go_wp2_with (first | (refine ldPt rfl rfl rfl k9 rfl ?_))
        refine (tadd_c GS w5 hS5.out hE2.out hC).mono ?_
        rintro e w7 ⟨rfl, hSw7, hg⟩
        replace k4 := k4.grown hg (fun h => n4S.out (by injection h with h; exact h.symm))
        replace k9 := k9.grown hg (fun h => n9S.out (by injection h with h; exact h.symm))
        replace k6 := k6.grown hg (fun h => n6S.out (by injection h with h; exact h.symm))
        replace hb0 := hb0.grown hg hb0.size (fun k hk => by injection hk with hk; omega)
        replace hC := hC.grown hg loC
        replace e1 := (hg.cell_far ⟨r1, j, none⟩ ltr1 (fun e => nr1.out (Option.some.inj e))).trans e1
        replace e2 := (hg.cell_far ⟨r2, j, none⟩ ltr2 (fun e => nr2.out (Option.some.inj e))).trans e2
        replace hq1 := Lib.hid (fun j hj => (hg.cell_far ⟨r1, j, none⟩ ltr1 (fun e => nr1.out (Option.some.inj e))).trans (hq1.out j hj))
        replace hq2 := Lib.hid (fun j hj => (hg.cell_far ⟨r2, j, none⟩ ltr2 (fun e => nr2.out (Option.some.inj e))).trans (hq2.out j hj))
        replace ltr1 := Nat.lt_of_lt_of_le ltr1 hg.size
        replace ltr2 := Nat.lt_of_lt_of_le ltr2 hg.size
        clear hg
        replace hSw7 := Lib.hid hSw7
        go_wp2
        go_roundw
        case rel => exact ⟨k + 1, hkm.out, by have := hjk.out; have := hkm.out; congr 1; omega, by rw [hSk.out]; exact hSw7.out, k4, k9, k6, hq1.out, hq2.out, ltr1, ltr2, hb0⟩
        case measure => have := hjk.out; first | (simp [intOf]; done) | (simp [intOf]; omega)
      · skip
        go_wp2_with (first | (refine ldPt rfl rfl rfl k4 rfl ?_))
        refine (tadd_c GS w5 hS5.out hp.out hC).mono ?_
        rintro e w6 ⟨rfl, hSw6, hg⟩
        replace k4 := k4.grown hg (fun h => n4S.out (by injection h with h; exact h.symm))
        replace k9 := k9.grown hg (fun h => n9S.out (by injection h with h; exact h.symm))
        replace k6 := k6.grown hg (fun h => n6S.out (by injection h with h; exact h.symm))
        replace hb0 := hb0.grown hg hb0.size (fun k hk => by injection hk with hk; omega)
        replace hC := hC.grown hg loC
        replace e1 := (hg.cell_far ⟨r1, j, none⟩ ltr1 (fun e => nr1.out (Option.some.inj e))).trans e1
        replace e2 := (hg.cell_far ⟨r2, j, none⟩ ltr2 (fun e => nr2.out (Option.some.inj e))).trans e2
        replace hq1 := Lib.hid (fun j hj => (hg.cell_far ⟨r1, j, none⟩ ltr1 (fun e => nr1.out (Option.some.inj e))).trans (hq1.out j hj))
        replace hq2 := Lib.hid (fun j hj => (hg.cell_far ⟨r2, j, none⟩ ltr2 (fun e => nr2.out (Option.some.inj e))).trans (hq2.out j hj))
        replace ltr1 := Nat.lt_of_lt_of_le ltr1 hg.size
        replace ltr2 := Nat.lt_of_lt_of_le ltr2 hg.size
        clear hg
        replace hSw6 := Lib.hid hSw6
        go_wp2
        go_roundw
        case rel => exact ⟨k + 1, hkm.out, by have := hjk.out; have := hkm.out; congr 1; omega, by rw [hSk.out]; exact hSw6.out, k4, k9, k6, hq1.out, hq2.out, ltr1, ltr2, hb0⟩
        case measure => have := hjk.out; first | (simp [intOf]; done) | (simp [intOf]; omega)
      · skip
        go_wp2_with (first | (refine ldPt rfl rfl rfl k4 rfl ?_))
        refine (tadd_c GS w5 hS5.out hp.out hC).mono ?_
        rintro e w6 ⟨rfl, hSw6, hg⟩
        replace k4 := k4.grown hg (fun h => n4S.out (by injection h with h; exact h.symm))
        replace k9 := k9.grown hg (fun h => n9S.out (by injection h with h; exact h.symm))
        replace k6 := k6.grown hg (fun h => n6S.out (by injection h with h; exact h.symm))
        replace hb0 := hb0.grown hg hb0.size (fun k hk => by injection hk with hk; omega)
        replace hC := hC.grown hg loC
        replace e1 := (hg.cell_far ⟨r1, j, none⟩ ltr1 (fun e => nr1.out (Option.some.inj e))).trans e1
        replace e2 := (hg.cell_far ⟨r2, j, none⟩ ltr2 (fun e => nr2.out (Option.some.inj e))).trans e2
        replace hq1 := Lib.hid (fun j hj => (hg.cell_far ⟨r1, j, none⟩ ltr1 (fun e => nr1.out (Option.some.inj e))).trans (hq1.out j hj))
        replace hq2 := Lib.hid (fun j hj => (hg.cell_far ⟨r2, j, none⟩ ltr2 (fun e => nr2.out (Option.some.inj e))).trans (hq2.out j hj))
        replace ltr1 := Nat.lt_of_lt_of_le ltr1 hg.size
        replace ltr2 := Nat.lt_of_lt_of_le ltr2 hg.size
        clear hg
        replace hSw6 := Lib.hid hSw6
        go_wp2_with (first | (refine ldPt rfl rfl rfl k9 rfl ?_))
        refine (tadd_c GS w6 hSw6.out hE2.out hC).mono ?_
        rintro e w7 ⟨rfl, hSw7, hg⟩
        replace k4 := k4.grown hg (fun h => n4S.out (by injection h with h; exact h.symm))
        replace k9 := k9.grown hg (fun h => n9S.out (by injection h with h; exact h.symm))
        replace k6 := k6.grown hg (fun h => n6S.out (by injection h with h; exact h.symm))
        replace hb0 := hb0.grown hg hb0.size (fun k hk => by injection hk with hk; omega)
        replace hC := hC.grown hg loC
        replace e1 := (hg.cell_far ⟨r1, j, none⟩ ltr1 (fun e => nr1.out (Option.some.inj e))).trans e1
        replace e2 := (hg.cell_far ⟨r2, j, none⟩ ltr2 (fun e => nr2.out (Option.some.inj e))).trans e2
        replace hq1 := Lib.hid (fun j hj => (hg.cell_far ⟨r1, j, none⟩ ltr1 (fun e => nr1.out (Option.some.inj e))).trans (hq1.out j hj))
        replace hq2 := Lib.hid (fun j hj => (hg.cell_far ⟨r2, j, none⟩ ltr2 (fun e => nr2.out (Option.some.inj e))).trans (hq2.out j hj))
        replace ltr1 := Nat.lt_of_lt_of_le ltr1 hg.size
        replace ltr2 := Nat.lt_of_lt_of_le ltr2 hg.size
        clear hg
        replace hSw7 := Lib.hid hSw7
        go_wp2
        go_roundw
        case rel => exact ⟨k + 1, hkm.out, by have := hjk.out; have := hkm.out; congr 1; omega, by rw [hSk.out]; exact hSw7.out, k4, k9, k6, hq1.out, hq2.out, ltr1, ltr2, hb0⟩
        case measure => have := hjk.out; first | (simp [intOf]; done) | (simp [intOf]; omega)
set_option maxRecDepth 20000 in
set_option maxHeartbeats 8000000 in
theorem both_xs (p1 : Option Addr) (n1 c1 : Nat) (hn1 : n1 ≠ 32) (g2 o2 c2 : Nat) (b2 : Nat → Int) (hr2 : ∀ j, 0 ≤ b2 j ∧ b2 j < 256) {X Y Z T : Fe.E} {x y : Fin Fe.P} (w : World)  (hg2 : g2 < w.heap.size) (hc2 : ∀ j, j < 32 → w.cell? ⟨g2, o2 + j, none⟩ = some (.int .u8 (b2 j))) (hp : PtE X Y Z T x y) (hCv : CvP w) :
    Calls Tryd.prog 46 #[.slice p1 n1 c1, .agg (pcs X Y Z T), .slice (some ⟨g2, o2, none⟩) 32 c2] w (PostQ (Fe.bothS x y (Fe.zf Fe.bX) (Fe.zf Fe.bY) (fun _ => false) (bitB b2) 256 256).1 (Fe.bothS x y (Fe.zf Fe.bX) (Fe.zf Fe.bY) (fun _ => false) (bitB b2) 256 256).2 w) := by
  have hbx1 := Lib.hid (fun w1 => sbits_x p1 n1 c1 hn1 w1)
  clear hn1
  have hbx2 := Lib.hid (fun w1 (hb : Below w.heap.size w w1) => sbits_c g2 o2 c2 b2 hr2 w1 (Nat.lt_of_lt_of_le hg2 hb.size) (fun j hj => (hb.cell (p := ⟨g2, o2 + j, none⟩) hg2).trans (hc2 j hj)))
  clear hr2 hg2 hc2
  obtain ⟨xb, hxb⟩ : ∃ v, Fe.zf Fe.bX = v := ⟨_, rfl⟩
  obtain ⟨yb, hyb⟩ : ∃ v, Fe.zf Fe.bY = v := ⟨_, rfl⟩
  have hbase := base_c
  rw [hxb, hyb] at hbase ⊢
  replace hbase := Lib.hid hbase
  clear hxb hyb
  obtain ⟨A, hA⟩ : ∃ A : Nat → Bool, A = (fun _ => false) := ⟨_, rfl⟩
  obtain ⟨B, hB⟩ : ∃ B : Nat → Bool, B = (bitB b2) := ⟨_, rfl⟩
  rw [← hA, ← hB]
  replace hB := Lib.hid hB
  replace hA := Lib.hid hA
  replace hp := Lib.hid hp
  replace hCv := Lib.hid hCv
  obtain ⟨S, hS⟩ : ∃ S, S = Fe.bothS x y xb yb A B 256 := ⟨_, rfl⟩
  rw [← hS]
  have hS0 : S 0 = (0, 1) := by rw [hS]; rfl
  have hS1 : ∀ k, S (k + 1) = if B (256 - 1 - k) then (Fe.ax (stepF x y (S k) (A (256 - 1 - k))).1 (stepF x y (S k) (A (256 - 1 - k))).2 xb yb, Fe.ay (stepF x y (S k) (A (256 - 1 - k))).1 (stepF x y (S k) (A (256 - 1 - k))).2 xb yb) else stepF x y (S k) (A (256 - 1 - k)) := fun k => by rw [hS]; rfl
  clear hS
  replace hS0 := Lib.hid hS0
  replace hS1 := Lib.hid hS1
  go_enter Tryd.func46, Tryd.ntmps46
  go_wp2_with fail
  refine calls_at (fun W0 hW => ?_)
  have k4 : Blk W0 w.heap.size 29 (pcs X Y Z T) := by rw [hW]; exact (Blk.new _ _ _).alloc _
  have k6 : Blk W0 (w.heap.size + 1) 29 (pcs ⟨0, 0, 0, 0, 0⟩ ⟨0, 0, 0, 0, 0⟩ ⟨0, 0, 0, 0, 0⟩ ⟨0, 0, 0, 0, 0⟩) := by rw [hW]; exact blk_at (by simp) (Blk.new _ _ _)
  have hb0 : Below w.heap.size w W0 := by rw [hW]; go_grown
  clear hW
  obtain ⟨G6, hG6⟩ : ∃ G, G = w.heap.size + 1 := ⟨_, rfl⟩
  obtain ⟨G4, hG4⟩ : ∃ G, G = w.heap.size := ⟨_, rfl⟩
  rw [← hG6] at k6 ⊢
  rw [← hG4] at k4 ⊢
  have lo6 : w.heap.size ≤ G6 := by omega
  clear hG4 hG6
  refine (hbx1.out W0).mono ?_
  rintro e v1 ⟨rfl, hwv⟩
  subst hwv
  clear hbx1
  go_wp2_with fail
  refine (hbx2.out W0 hb0).mono ?_
  rintro e v2 ⟨r2, cr2, hlo, rfl, hown, hrow2, hb⟩
  have hcr2 : 256 ≤ cr2 := by
    rcases hown with ⟨_, h | ⟨g', cap, cur, h1, h2, h3, h4, h5, h6, h7⟩⟩
    · exact absurd h.2 (by decide)
    injection h1 with _ _ h8
    omega
  clear hown
  have ltr2 : r2 < v2.heap.size := (Nat.lt_or_ge r2 v2.heap.size).elim id (fun h => by
    have := hrow2 0 (by decide)
    simp only [World.cell?, Array.getElem?_eq_none h] at this
    cases this)
  clear hlo hbx2
  replace k4 := k4.below hb
  replace k6 := k6.below hb
  replace hb0 := hb0.trans (hb.mono hb0.size)
  clear hb
  replace hrow2 := Lib.hid hrow2
  have hap := Lib.hid (fun (w : World) (ty : TypeId) => run_app256b w ty)
  have hmk : True := trivial
  go_wp2_with (first | (at_builtin; clear hmk; obtain ⟨cr1, va, hrun, hb, hrow1⟩ := hap.out v2 68; refine Lib.wpList_append_run _ rfl _ _ _ _ rfl _ _ rfl rfl _ _ hrun ?_) | (at_builtin; refine Lib.wpList_append_run _ rfl _ _ _ _ rfl _ _ rfl rfl _ _ (run_app0b _ _ _ _ _ (by omega)) ?_))
  obtain ⟨r1, hr1⟩ : ∃ r, r = v2.heap.size := ⟨_, rfl⟩
  rw [← hr1] at hrow1 ⊢
  have ltr1 : r1 < va.heap.size := (Nat.lt_or_ge r1 va.heap.size).elim id (fun h => by
    have := hrow1 0 (by decide)
    simp only [World.cell?, Array.getElem?_eq_none h] at this
    cases this)
  clear hr1 hrun hap
  replace hrow2 := Lib.hid (fun j hj => (hb.cell (p := ⟨r2, j, none⟩) ltr2).trans (hrow2.out j hj))
  replace ltr2 : r2 < va.heap.size := Nat.lt_of_lt_of_le ltr2 hb.size
  replace k4 := k4.below hb
  replace k6 := k6.below hb
  replace hb0 := hb0.trans (hb.mono hb0.size)
  clear hb
  replace hrow1 := Lib.hid hrow1
  have hq1 : ∀ j, j < 256 → va.cell? ⟨r1, j, none⟩ = some (.bool (A j)) := fun j hj => by rw [hA.out]; exact hrow1.out j hj
  have hq2 : ∀ j, j < 256 → va.cell? ⟨r2, j, none⟩ = some (.bool (B j)) := fun j hj => by rw [hB.out]; exact hrow2.out j hj
  clear hrow1 hrow2
  replace hq1 := Lib.hid hq1
  replace hq2 := Lib.hid hq2
  clear hA hB
  refine (hbase.out va (hCv.out.below hb0 hCv.out.lt)).mono ?_
  rintro e v3 ⟨X2, Y2, Z2, T2, rfl, hE2, hb⟩
  replace hE2 := Lib.hid hE2
  replace k4 := k4.below hb
  replace k6 := k6.below hb
  replace hb0 := hb0.trans (hb.mono hb0.size)
  replace hq1 := Lib.hid (fun j hj => (hb.cell (p := ⟨r1, j, none⟩) ltr1).trans (hq1.out j hj))
  replace hq2 := Lib.hid (fun j hj => (hb.cell (p := ⟨r2, j, none⟩) ltr2).trans (hq2.out j hj))
  replace ltr1 := Nat.lt_of_lt_of_le ltr1 hb.size
  replace ltr2 := Nat.lt_of_lt_of_le ltr2 hb.size
  clear hb hbase
  have k4lt := k4.lt
  have k6lt := k6.lt
  go_wp2_with (refine stPt rfl rfl rfl rfl (Blk.new _ _ _) rfl rfl (by kernel_rfl) ?_; intro v4 k9 hgr hsz)
  have hb : Below v3.heap.size v3 v4 := ((Below.refl _ _).alloc (Nat.le_refl _) _).grown hgr (by rw [World.size_alloc]; omega) (fun k hk => by injection hk with hk; omega)
  obtain ⟨G9, hG9⟩ : ∃ G, G = v3.heap.size := ⟨_, rfl⟩
  rw [← hG9] at k9 ⊢
  clear hG9 hgr hsz k4lt k6lt
  replace k4 := k4.below hb
  replace k6 := k6.below hb
  replace hb0 := hb0.trans (hb.mono hb0.size)
  replace hq1 := Lib.hid (fun j hj => (hb.cell (p := ⟨r1, j, none⟩) ltr1).trans (hq1.out j hj))
  replace hq2 := Lib.hid (fun j hj => (hb.cell (p := ⟨r2, j, none⟩) ltr2).trans (hq2.out j hj))
  replace ltr1 := Nat.lt_of_lt_of_le ltr1 hb.size
  replace ltr2 := Nat.lt_of_lt_of_le ltr2 hb.size
  clear hb
  refine (zero4_c _).mono ?_
  rintro e v5 ⟨rfl, hb⟩
  replace k4 := k4.below hb
  replace k6 := k6.below hb
  replace k9 := k9.below hb
  replace hb0 := hb0.trans (hb.mono hb0.size)
  replace hq1 := Lib.hid (fun j hj => (hb.cell (p := ⟨r1, j, none⟩) ltr1).trans (hq1.out j hj))
  replace hq2 := Lib.hid (fun j hj => (hb.cell (p := ⟨r2, j, none⟩) ltr2).trans (hq2.out j hj))
  replace ltr1 := Nat.lt_of_lt_of_le ltr1 hb.size
  replace ltr2 := Nat.lt_of_lt_of_le ltr2 hb.size
  clear hb
  have hlt := k6.lt
  have hlt4 := k4.lt
  have hlt9 := k9.lt
  go_wp2_with (refine stSm (X := ⟨0, 0, 0, 0, 0⟩) (Y := ⟨1, 0, 0, 0, 0⟩) (Z := ⟨1, 0, 0, 0, 0⟩) (T := ⟨0, 0, 0, 0, 0⟩) rfl rfl rfl rfl (Blk.new _ _ _) rfl ?_; intro v6 kS1 hgr hsz; obtain ⟨V6, hV6⟩ : ∃ V : Value, V = .agg #[.int .u64 0, .int .u64 0, .int .u64 0, .int .u64 0, .int .u64 0, .int .u64 1, .int .u64 0, .int .u64 0, .int .u64 0, .int .u64 0, .int .u64 1, .int .u64 0, .int .u64 0, .int .u64 0, .int .u64 0, .int .u64 0, .int .u64 0, .int .u64 0, .int .u64 0, .int .u64 0] := ⟨_, rfl⟩; rw [← hV6]; clear hV6)
  have hb : Below v5.heap.size v5 v6 := ((Below.refl _ _).alloc (Nat.le_refl _) _).grown hgr (by rw [World.size_alloc]; omega) (fun k hk => by injection hk with hk; omega)
  have kS : SumQ v6 v5.heap.size (S 0).1 (S 0).2 := by rw [hS0.out]; exact ⟨_, _, _, _, kS1, ptE_zero⟩
  clear kS1 hgr hsz hS0
  obtain ⟨GS, hGS⟩ : ∃ GS, GS = v5.heap.size := ⟨_, rfl⟩
  rw [← hGS] at kS ⊢
  have n4S := Lib.hid (show GS ≠ G4 by omega)
  have n6S := Lib.hid (show GS ≠ G6 by omega)
  have n9S := Lib.hid (show GS ≠ G9 by omega)
  have loS : w.heap.size ≤ GS := by have := hb0.size; omega
  have nr1 := Lib.hid (show r1 ≠ GS by omega)
  have nr2 := Lib.hid (show r2 ≠ GS by omega)
  replace k4 := k4.below hb
  replace k6 := k6.below hb
  replace k9 := k9.below hb
  replace hb0 := hb0.trans (hb.mono hb0.size)
  replace hq1 := Lib.hid (fun j hj => (hb.cell (p := ⟨r1, j, none⟩) ltr1).trans (hq1.out j hj))
  replace hq2 := Lib.hid (fun j hj => (hb.cell (p := ⟨r2, j, none⟩) ltr2).trans (hq2.out j hj))
  replace ltr1 := Nat.lt_of_lt_of_le ltr1 hb.size
  replace ltr2 := Nat.lt_of_lt_of_le ltr2 hb.size
  clear hb hGS hlt hlt4 hlt9
  replace kS := Lib.hid kS
  go_loopw [11] (fun i wr => ∃ k : Nat, k ≤ 256 ∧ i = .int .i64 (256 - 1 - k) ∧ SumQ wr GS (S k).1 (S k).2 ∧ Blk wr G4 29 (pcs X Y Z T) ∧ Blk wr G9 29 (pcs X2 Y2 Z2 T2) ∧ Blk wr G6 29 (pcs ⟨0, 0, 0, 0, 0⟩ ⟨0, 0, 0, 0, 0⟩ ⟨0, 0, 0, 0, 0⟩ ⟨0, 0, 0, 0, 0⟩) ∧ (∀ j, j < 256 → wr.cell? ⟨r1, j, none⟩ = some (.bool (A j))) ∧ (∀ j, j < 256 → wr.cell? ⟨r2, j, none⟩ = some (.bool (B j))) ∧ r1 < wr.heap.size ∧ r2 < wr.heap.size ∧ Below w.heap.size w wr) (fun i _ => (intOf i + 1).toNat)
  case atStart => exact ⟨0, by omega, by simp, kS.out, k4, k9, k6, hq1.out, hq2.out, ltr1, ltr2, hb0⟩
  case round =>
    clear kS k4 k9 k6 hb0 hq1 hq2 ltr1 ltr2
    obtain ⟨k, hk, hi, hS, k4, k9, k6, hq1, hq2, ltr1, ltr2, hb0⟩ := hrel
    subst hi
    by_cases he : k = 256
    · as_aux_lemma =>
      subst he
      obtain ⟨X3, Y3, Z3, T3, kS, hE⟩ := hS
      replace hE := Lib.hid hE
      clear hq1 hq2 ltr1 ltr2
      go_wp2_with (first | (refine ldPt rfl rfl rfl kS rfl ?_) | (refine stPt rfl rfl rfl rfl k6 rfl rfl (by kernel_rfl) ?_; intro w9 k7 hgr hsz))
      exact retPt rfl rfl k7 rfl rfl ⟨X3, Y3, Z3, T3, rfl, hE.out, hb0.grown hgr hb0.size (fun k hk => by injection hk with hk; omega)⟩
    · as_aux_lemma =>
      obtain ⟨j, hj⟩ : ∃ j, j = 255 - k := ⟨_, rfl⟩
      have hjn : j < 256 := by omega
      have hj1 : (j : Int) < 256 := by omega
      have hj0 : (0 : Int) ≤ (j : Int) := by omega
      have hij : (256 : Int) - 1 - k = (j : Int) := by omega
      rw [hij]
      have hSk := hS1.out k
      rw [show 256 - 1 - k = j by omega] at hSk
      have e1 := hq1 j hjn
      have e2 := hq2 j hjn
      have hkm : Hid (k < 256) := Lib.hid (by omega)
      have hjk : Hid (j = 255 - k) := Lib.hid hj
      clear he hk hij hj
      replace hSk := Lib.hid hSk
      replace hq1 := Lib.hid hq1
      replace hq2 := Lib.hid hq2
      have hkS := Lib.hid hS
      have gS := hS.lt
      have hC := hCv.out.below hb0 hCv.out.lt
      have loC : 1 < GS := by have := hCv.out.lt; omega
      clear hS
      go_wp2_with fail
      refine (tdbl_c GS wr hkS.out).mono ?_
      rintro e w5 ⟨rfl, hS5, hg⟩
      replace k4 := k4.grown hg (fun h => n4S.out (by injection h with h; exact h.symm))
      replace k9 := k9.grown hg (fun h => n9S.out (by injection h with h; exact h.symm))
      replace k6 := k6.grown hg (fun h => n6S.out (by injection h with h; exact h.symm))
      replace hb0 := hb0.grown hg hb0.size (fun k hk => by injection hk with hk; omega)
      replace hC := hC.grown hg loC
      replace e1 := (hg.cell_far ⟨r1, j, none⟩ ltr1 (fun e => nr1.out (Option.some.inj e))).trans e1
      replace e2 := (hg.cell_far ⟨r2, j, none⟩ ltr2 (fun e => nr2.out (Option.some.inj e))).trans e2
      replace hq1 := Lib.hid (fun j hj => (hg.cell_far ⟨r1, j, none⟩ ltr1 (fun e => nr1.out (Option.some.inj e))).trans (hq1.out j hj))
      replace hq2 := Lib.hid (fun j hj => (hg.cell_far ⟨r2, j, none⟩ ltr2 (fun e => nr2.out (Option.some.inj e))).trans (hq2.out j hj))
      replace ltr1 := Nat.lt_of_lt_of_le ltr1 hg.size
      replace ltr2 := Nat.lt_of_lt_of_le ltr2 hg.size
      clear hg gS hkS
      replace hS5 := Lib.hid hS5
      cases hAj : A j <;> cases hBj : B j <;> rw [hAj] at e1 <;> rw [hBj] at e2 <;> rw [hAj, hBj] at hSk
      · skip
        go_wp2
        go_roundw
        case rel => exact ⟨k + 1, hkm.out, by have := hjk.out; have := hkm.out; congr 1; omega, by rw [hSk.out]; exact hS5.out, k4, k9, k6, hq1.out, hq2.out, ltr1, ltr2, hb0⟩
        case measure => have := hjk.out; first | (simp [intOf]; done) | (simp [intOf]; omega)
      · skip
        go_wp2_with (first | (refine ldPt rfl rfl rfl k9 rfl ?_))
        refine (tadd_c GS w5 hS5.out hE2.out hC).mono ?_
        rintro e w7 ⟨rfl, hSw7, hg⟩
        replace k4 := k4.grown hg (fun h => n4S.out (by injection h with h; exact h.symm))
        replace k9 := k9.grown hg (fun h => n9S.out (by injection h with h; exact h.symm))
        replace k6 := k6.grown hg (fun h => n6S.out (by injection h with h; exact h.symm))
        replace hb0 := hb0.grown hg hb0.size (fun k hk => by injection hk with hk; omega)
        replace hC := hC.grown hg loC
        replace e1 := (hg.cell_far ⟨r1, j, none⟩ ltr1 (fun e => nr1.out (Option.some.inj e))).trans e1
        replace e2 := (hg.cell_far ⟨r2, j, none⟩ ltr2 (fun e => nr2.out (Option.some.inj e))).trans e2
        replace hq1 := Lib.hid (fun j hj => (hg.cell_far ⟨r1, j, none⟩ ltr1 (fun e => nr1.out (Option.some.inj e))).trans (hq1.out j hj))
        replace hq2 := Lib.hid (fun j hj => (hg.cell_far ⟨r2, j, none⟩ ltr2 (fun e => nr2.out (Option.some.inj e))).trans (hq2.out j hj))
        replace ltr1 := Nat.lt_of_lt_of_le ltr1 hg.size
        replace ltr2 := Nat.lt_of_lt_of_le ltr2 hg.size
        clear hg
        replace hSw7 := Lib.hid hSw7
        go_wp2
        go_roundw
        case rel => exact ⟨k + 1, hkm.out, by have := hjk.out; have := hkm.out; congr 1; omega, by rw [hSk.out]; exact hSw7.out, k4, k9, k6, hq1.out, hq2.out, ltr1, ltr2, hb0⟩
        case measure => have := hjk.out; first | (simp [intOf]; done) | (simp [intOf]; omega)
      · skip
        go_wp2_with (first | (refine ldPt rfl rfl rfl k4 rfl ?_))
        refine (tadd_c GS w5 hS5.out hp.out hC).mono ?_
        rintro e w6 ⟨rfl, hSw6, hg⟩
        replace k4 := k4.grown hg (fun h => n4S.out (by injection h with h; exact h.symm))
        replace k9 := k9.grown hg (fun h => n9S.out (by injection h with h; exact h.symm))
        replace k6 := k6.grown hg (fun h => n6S.out (by injection h with h; exact h.symm))
        replace hb0 := hb0.grown hg hb0.size (fun k hk => by injection hk with hk; omega)
        replace hC := hC.grown hg loC
        replace e1 := (hg.cell_far ⟨r1, j, none⟩ ltr1 (fun e => nr1.out (Option.some.inj e))).trans e1
        replace e2 := (hg.cell_far ⟨r2, j, none⟩ ltr2 (fun e => nr2.out (Option.some.inj e))).trans e2
        replace hq1 := Lib.hid (fun j hj => (hg.cell_far ⟨r1, j, none⟩ ltr1 (fun e => nr1.out (Option.some.inj e))).trans (hq1.out j hj))
        replace hq2 := Lib.hid (fun j hj => (hg.cell_far ⟨r2, j, none⟩ ltr2 (fun e => nr2.out (Option.some.inj e))).trans (hq2.out j hj))
        replace ltr1 := Nat.lt_of_lt_of_le ltr1 hg.size
        replace ltr2 := Nat.lt_of_lt_of_le ltr2 hg.size
        clear hg
        replace hSw6 := Lib.hid hSw6
        go_wp2
        go_roundw
        case rel => exact ⟨k + 1, hkm.out, by have := hjk.out; have := hkm.out; congr 1; omega, by rw [hSk.out]; exact hSw6.out, k4, k9, k6, hq1.out, hq2.out, ltr1, ltr2, hb0⟩
        case measure => have := hjk.out; first | (simp [intOf]; done) | (simp [intOf]; omega)
      · skip
        go_wp2_with (first | (refine ldPt rfl rfl rfl k4 rfl ?_))
        refine (tadd_c GS w5 hS5.out hp.out hC).mono ?_
        rintro e w6 ⟨rfl, hSw6, hg⟩
        replace k4 := k4.grown hg (fun h => n4S.out (by injection h with h; exact h.symm))
        replace k9 := k9.grown hg (fun h => n9S.out (by injection h with h; exact h.symm))
        replace k6 := k6.grown hg (fun h => n6S.out (by injection h with h; exact h.symm))
        replace hb0 := hb0.grown hg hb0.size (fun k hk => by injection hk with hk; omega)
        replace hC := hC.grown hg loC
        replace e1 := (hg.cell_far ⟨r1, j, none⟩ ltr1 (fun e => nr1.out (Option.some.inj e))).trans e1
        replace e2 := (hg.cell_far ⟨r2, j, none⟩ ltr2 (fun e => nr2.out (Option.some.inj e))).trans e2
        replace hq1 := Lib.hid (fun j hj => (hg.cell_far ⟨r1, j, none⟩ ltr1 (fun e => nr1.out (Option.some.inj e))).trans (hq1.out j hj))
        replace hq2 := Lib.hid (fun j hj => (hg.cell_far ⟨r2, j, none⟩ ltr2 (fun e => nr2.out (Option.some.inj e))).trans (hq2.out j hj))
        replace ltr1 := Nat.lt_of_lt_of_le ltr1 hg.size
        replace ltr2 := Nat.lt_of_lt_of_le ltr2 hg.size
        clear hg
        replace hSw6 := Lib.hid hSw6
        go_wp2_with (first | (refine ldPt rfl rfl rfl k9 rfl ?_))
        refine (tadd_c GS w6 hSw6.out hE2.out hC).mono ?_
        rintro e w7 ⟨rfl, hSw7, hg⟩
        replace k4 := k4.grown hg (fun h => n4S.out (by injection h with h; exact h.symm))
        replace k9 := k9.grown hg (fun h => n9S.out (by injection h with h; exact h.symm))
        replace k6 := k6.grown hg (fun h => n6S.out (by injection h with h; exact h.symm))
        replace hb0 := hb0.grown hg hb0.size (fun k hk => by injection hk with hk; omega)
        replace hC := hC.grown hg loC
        replace e1 := (hg.cell_far ⟨r1, j, none⟩ ltr1 (fun e => nr1.out (Option.some.inj e))).trans e1
        replace e2 := (hg.cell_far ⟨r2, j, none⟩ ltr2 (fun e => nr2.out (Option.some.inj e))).trans e2
        replace hq1 := Lib.hid (fun j hj => (hg.cell_far ⟨r1, j, none⟩ ltr1 (fun e => nr1.out (Option.some.inj e))).trans (hq1.out j hj))
        replace hq2 := Lib.hid (fun j hj => (hg.cell_far ⟨r2, j, none⟩ ltr2 (fun e => nr2.out (Option.some.inj e))).trans (hq2.out j hj))
        replace ltr1 := Nat.lt_of_lt_of_le ltr1 hg.size
        replace ltr2 := Nat.lt_of_lt_of_le ltr2 hg.size
        clear hg
        replace hSw7 := Lib.hid hSw7
        go_wp2
        go_roundw
        case rel => exact ⟨k + 1, hkm.out, by have := hjk.out; have := hkm.out; congr 1; omega, by rw [hSk.out]; exact hSw7.out, k4, k9, k6, hq1.out, hq2.out, ltr1, ltr2, hb0⟩
        case measure => have := hjk.out; first | (simp [intOf]; done) | (simp [intOf]; omega)
set_option maxRecDepth 20000 in
set_option maxHeartbeats 8000000 in
theorem both_sx (g1 o1 c1 : Nat) (b1 : Nat → Int) (hr1 : ∀ j, 0 ≤ b1 j ∧ b1 j < 256) (p2 : Option Addr) (n2 c2 : Nat) (hn2 : n2 ≠ 32) {X Y Z T : Fe.E} {x y : Fin Fe.P} (w : World) (hg1 : g1 < w.heap.size) (hc1 : ∀ j, j < 32 → w.cell? ⟨g1, o1 + j, none⟩ = some (.int .u8 (b1 j)))  (hp : PtE X Y Z T x y) (hCv : CvP w) :
    Calls Tryd.prog 46 #[.slice (some ⟨g1, o1, none⟩) 32 c1, .agg (pcs X Y Z T), .slice p2 n2 c2] w (PostQ (Fe.bothS x y (Fe.zf Fe.bX) (Fe.zf Fe.bY) (bitB b1) (fun _ => false) 256 256).1 (Fe.bothS x y (Fe.zf Fe.bX) (Fe.zf Fe.bY) (bitB b1) (fun _ => false) 256 256).2 w) := by
  have hbx1 := Lib.hid (fun w1 (hb : Below w.heap.size w w1) => sbits_c g1 o1 c1 b1 hr1 w1 (Nat.lt_of_lt_of_le hg1 hb.size) (fun j hj => (hb.cell (p := ⟨g1, o1 + j, none⟩) hg1).trans (hc1 j hj)))
  clear hr1 hg1 hc1
  have hbx2 := Lib.hid (fun w1 => sbits_x p2 n2 c2 hn2 w1)
  clear hn2
  obtain ⟨xb, hxb⟩ : ∃ v, Fe.zf Fe.bX = v := ⟨_, rfl⟩
  obtain ⟨yb, hyb⟩ : ∃ v, Fe.zf Fe.bY = v := ⟨_, rfl⟩
  have hbase := base_c
  rw [hxb, hyb] at hbase ⊢
  replace hbase := Lib.hid hbase
  clear hxb hyb
  obtain ⟨A, hA⟩ : ∃ A : Nat → Bool, A = (bitB b1) := ⟨_, rfl⟩
  obtain ⟨B, hB⟩ : ∃ B : Nat → Bool, B = (fun _ => false) := ⟨_, rfl⟩
  rw [← hA, ← hB]
  replace hB := Lib.hid hB
  replace hA := Lib.hid hA
  replace hp := Lib.hid hp
  replace hCv := Lib.hid hCv
  obtain ⟨S, hS⟩ : ∃ S, S = Fe.bothS x y xb yb A B 256 := ⟨_, rfl⟩
  rw [← hS]
  have hS0 : S 0 = (0, 1) := by rw [hS]; rfl
  have hS1 : ∀ k, S (k + 1) = if B (256 - 1 - k) then (Fe.ax (stepF x y (S k) (A (256 - 1 - k))).1 (stepF x y (S k) (A (256 - 1 - k))).2 xb yb, Fe.ay (stepF x y (S k) (A (256 - 1 - k))).1 (stepF x y (S k) (A (256 - 1 - k))).2 xb yb) else stepF x y (S k) (A (256 - 1 - k)) := fun k => by rw [hS]; rfl
  clear hS
  replace hS0 := Lib.hid hS0
  replace hS1 := Lib.hid hS1
  go_enter Tryd.func46, Tryd.ntmps46
  go_wp2_with fail
  refine calls_at (fun W0 hW => ?_)
  have k4 : Blk W0 w.heap.size 29 (pcs X Y Z T) := by rw [hW]; exact (Blk.new _ _ _).alloc _
  have k6 : Blk W0 (w.heap.size + 1) 29 (pcs ⟨0, 0, 0, 0, 0⟩ ⟨0, 0, 0, 0, 0⟩ ⟨0, 0, 0, 0, 0⟩ ⟨0, 0, 0, 0, 0⟩) := by rw [hW]; exact blk_at (by simp) (Blk.new _ _ _)
  have hb0 : Below w.heap.size w W0 := by rw [hW]; go_grown
  clear hW
  obtain ⟨G6, hG6⟩ : ∃ G, G = w.heap.size + 1 := ⟨_, rfl⟩
  obtain ⟨G4, hG4⟩ : ∃ G, G = w.heap.size := ⟨_, rfl⟩
  rw [← hG6] at k6 ⊢
  rw [← hG4] at k4 ⊢
  have lo6 : w.heap.size ≤ G6 := by omega
  clear hG4 hG6
  refine (hbx1.out W0 hb0).mono ?_
  rintro e v1 ⟨r1, cr1, hlo, rfl, hown, hrow1, hb⟩
  have hcr1 : 256 ≤ cr1 := by
    rcases hown with ⟨_, h | ⟨g', cap, cur, h1, h2, h3, h4, h5, h6, h7⟩⟩
    · exact absurd h.2 (by decide)
    injection h1 with _ _ h8
    omega
  clear hown
  have ltr1 : r1 < v1.heap.size := (Nat.lt_or_ge r1 v1.heap.size).elim id (fun h => by
    have := hrow1 0 (by decide)
    simp only [World.cell?, Array.getElem?_eq_none h] at this
    cases this)
  clear hlo hbx1
  replace k4 := k4.below hb
  replace k6 := k6.below hb
  replace hb0 := hb0.trans (hb.mono hb0.size)
  clear hb
  replace hrow1 := Lib.hid hrow1
  go_wp2_with fail
  refine (hbx2.out v1).mono ?_
  rintro e v2 ⟨rfl, hwv⟩
  subst hwv
  clear hbx2
  have hap := Lib.hid (fun (w : World) (ty : TypeId) => run_app256b w ty)
  have hmk : True := trivial
  go_wp2_with (first | (at_builtin; clear hmk; obtain ⟨cr2, va, hrun, hb, hrow2⟩ := hap.out v1 68; refine Lib.wpList_append_run _ rfl _ _ _ _ rfl _ _ rfl rfl _ _ hrun ?_) | (at_builtin; refine Lib.wpList_append_run _ rfl _ _ _ _ rfl _ _ rfl rfl _ _ (run_app0b _ _ _ _ _ (by omega)) ?_))
  obtain ⟨r2, hr2⟩ : ∃ r, r = v1.heap.size := ⟨_, rfl⟩
  rw [← hr2] at hrow2 ⊢
  have ltr2 : r2 < va.heap.size := (Nat.lt_or_ge r2 va.heap.size).elim id (fun h => by
    have := hrow2 0 (by decide)
    simp only [World.cell?, Array.getElem?_eq_none h] at this
    cases this)
  clear hr2 hrun hap
  replace hrow1 := Lib.hid (fun j hj => (hb.cell (p := ⟨r1, j, none⟩) ltr1).trans (hrow1.out j hj))
  replace ltr1 : r1 < va.heap.size := Nat.lt_of_lt_of_le ltr1 hb.size
  replace k4 := k4.below hb
  replace k6 := k6.below hb
  replace hb0 := hb0.trans (hb.mono hb0.size)
  clear hb
  replace hrow2 := Lib.hid hrow2
  have hq1 : ∀ j, j < 256 → va.cell? ⟨r1, j, none⟩ = some (.bool (A j)) := fun j hj => by rw [hA.out]; exact hrow1.out j hj
  have hq2 : ∀ j, j < 256 → va.cell? ⟨r2, j, none⟩ = some (.bool (B j)) := fun j hj => by rw [hB.out]; exact hrow2.out j hj
  clear hrow1 hrow2
  replace hq1 := Lib.hid hq1
  replace hq2 := Lib.hid hq2
  clear hA hB
  refine (hbase.out va (hCv.out.below hb0 hCv.out.lt)).mono ?_
  rintro e v3 ⟨X2, Y2, Z2, T2, rfl, hE2, hb⟩
  replace hE2 := Lib.hid hE2
  replace k4 := k4.below hb
  replace k6 := k6.below hb
  replace hb0 := hb0.trans (hb.mono hb0.size)
  replace hq1 := Lib.hid (fun j hj => (hb.cell (p := ⟨r1, j, none⟩) ltr1).trans (hq1.out j hj))
  replace hq2 := Lib.hid (fun j hj => (hb.cell (p := ⟨r2, j, none⟩) ltr2).trans (hq2.out j hj))
  replace ltr1 := Nat.lt_of_lt_of_le ltr1 hb.size
  replace ltr2 := Nat.lt_of_lt_of_le ltr2 hb.size
  clear hb hbase
  have k4lt := k4.lt
  have k6lt := k6.lt
  go_wp2_with (refine stPt rfl rfl rfl rfl (Blk.new _ _ _) rfl rfl (by kernel_rfl) ?_; intro v4 k9 hgr hsz)
  have hb : Below v3.heap.size v3 v4 := ((Below.refl _ _).alloc (Nat.le_refl _) _).grown hgr (by rw [World.size_alloc]; omega) (fun k hk => by injection hk with hk; omega)
  obtain ⟨G9, hG9⟩ : ∃ G, G = v3.heap.size := ⟨_, rfl⟩
  rw [← hG9] at k9 ⊢
  clear hG9 hgr hsz k4lt k6lt
  replace k4 := k4.below hb
  replace k6 := k6.below hb
  replace hb0 := hb0.trans (hb.mono hb0.size)
  replace hq1 := Lib.hid (fun j hj => (hb.cell (p := ⟨r1, j, none⟩) ltr1).trans (hq1.out j hj))
  replace hq2 := Lib.hid (fun j hj => (hb.cell (p := ⟨r2, j, none⟩) ltr2).trans (hq2.out j hj))
  replace ltr1 := Nat.lt_of_lt_of_le ltr1 hb.size
  replace ltr2 := Nat.lt_of_lt_of_le ltr2 hb.size
  clear hb
  refine (zero4_c _).mono ?_
  rintro e v5 ⟨rfl, hb⟩
  replace k4 := k4.below hb
  replace k6 := k6.below hb
  replace k9 := k9.below hb
  replace hb0 := hb0.trans (hb.mono hb0.size)
  replace hq1 := Lib.hid (fun j hj => (hb.cell (p := ⟨r1, j, none⟩) ltr1).trans (hq1.out j hj))
  replace hq2 := Lib.hid (fun j hj => (hb.cell (p := ⟨r2, j, none⟩) ltr2).trans (hq2.out j hj))
  replace ltr1 := Nat.lt_of_lt_of_le ltr1 hb.size
  replace ltr2 := Nat.lt_of_lt_of_le ltr2 hb.size
  clear hb
  have hlt := k6.lt
  have hlt4 := k4.lt
  have hlt9 := k9.lt
  go_wp2_with (refine stSm (X := ⟨0, 0, 0, 0, 0⟩) (Y := ⟨1, 0, 0, 0, 0⟩) (Z := ⟨1, 0, 0, 0, 0⟩) (T := ⟨0, 0, 0, 0, 0⟩) rfl rfl rfl rfl (Blk.new _ _ _) rfl ?_; intro v6 kS1 hgr hsz; obtain ⟨V6, hV6⟩ : ∃ V : Value, V = .agg #[.int .u64 0, .int .u64 0, .int .u64 0, .int .u64 0, .int .u64 0, .int .u64 1, .int .u64 0, .int .u64 0, .int .u64 0, .int .u64 0, .int .u64 1, .int .u64 0, .int .u64 0, .int .u64 0, .int .u64 0, .int .u64 0, .int .u64 0, .int .u64 0, .int .u64 0, .int .u64 0] := ⟨_, rfl⟩; rw [← hV6]; clear hV6)
  have hb : Below v5.heap.size v5 v6 := ((Below.refl _ _).alloc (Nat.le_refl _) _).grown hgr (by rw [World.size_alloc]; omega) (fun k hk => by injection hk with hk; omega)
  have kS : SumQ v6 v5.heap.size (S 0).1 (S 0).2 := by rw [hS0.out]; exact ⟨_, _, _, _, kS1, ptE_zero⟩
  clear kS1 hgr hsz hS0
  obtain ⟨GS, hGS⟩ : ∃ GS, GS = v5.heap.size := ⟨_, rfl⟩
  rw [← hGS] at kS ⊢
  have n4S := Lib.hid (show GS ≠ G4 by omega)
  have n6S := Lib.hid (show GS ≠ G6 by omega)
  have n9S := Lib.hid (show GS ≠ G9 by omega)
  have loS : w.heap.size ≤ GS := by have := hb0.size; omega
  have nr1 := Lib.hid (show r1 ≠ GS by omega)
  have nr2 := Lib.hid (show r2 ≠ GS by omega)
  replace k4 := k4.below hb
  replace k6 := k6.below hb
  replace k9 := k9.below hb
  replace hb0 := hb0.trans (hb.mono hb0.size)
  replace hq1 := Lib.hid (fun j hj => (hb.cell (p := ⟨r1, j, none⟩) ltr1).trans (hq1.out j hj))
  replace hq2 := Lib.hid (fun j hj => (hb.cell (p := ⟨r2, j, none⟩) ltr2).trans (hq2.out j hj))
  replace ltr1 := Nat.lt_of_lt_of_le ltr1 hb.size
  replace ltr2 := Nat.lt_of_lt_of_le ltr2 hb.size
  clear hb hGS hlt hlt4 hlt9
  replace kS := Lib.hid kS
  go_loopw [11] (fun i wr => ∃ k : Nat, k ≤ 256 ∧ i = .int .i64 (256 - 1 - k) ∧ SumQ wr GS (S k).1 (S k).2 ∧ Blk wr G4 29 (pcs X Y Z T) ∧ Blk wr G9 29 (pcs X2 Y2 Z2 T2) ∧ Blk wr G6 29 (pcs ⟨0, 0, 0, 0, 0⟩ ⟨0, 0, 0, 0, 0⟩ ⟨0, 0, 0, 0, 0⟩ ⟨0, 0, 0, 0, 0⟩) ∧ (∀ j, j < 256 → wr.cell? ⟨r1, j, none⟩ = some (.bool (A j))) ∧ (∀ j, j < 256 → wr.cell? ⟨r2, j, none⟩ = some (.bool (B j))) ∧ r1 < wr.heap.size ∧ r2 < wr.heap.size ∧ Below w.heap.size w wr) (fun i _ => (intOf i + 1).toNat)
  case atStart => exact ⟨0, by omega, by simp, kS.out, k4, k9, k6, hq1.out, hq2.out, ltr1, ltr2, hb0⟩
  case round =>
    clear kS k4 k9 k6 hb0 hq1 hq2 ltr1 ltr2
    obtain ⟨k, hk, hi, hS, k4, k9, k6, hq1, hq2, ltr1, ltr2, hb0⟩ := hrel
    subst hi
    by_cases he : k = 256
    · as_aux_lemma =>
      subst he
      obtain ⟨X3, Y3, Z3, T3, kS, hE⟩ := hS
      replace hE := Lib.hid hE
      clear hq1 hq2 ltr1 ltr2
      go_wp2_with (first | (refine ldPt rfl rfl rfl kS rfl ?_) | (refine stPt rfl rfl rfl rfl k6 rfl rfl (by kernel_rfl) ?_; intro w9 k7 hgr hsz))
      exact retPt rfl rfl k7 rfl rfl ⟨X3, Y3, Z3, T3, rfl, hE.out, hb0.grown hgr hb0.size (fun k hk => by injection hk with hk; omega)⟩
    · as_aux_lemma =>
      obtain ⟨j, hj⟩ : ∃ j, j = 255 - k := ⟨_, rfl⟩
      have hjn : j < 256 := by omega
      have hj1 : (j : Int) < 256 := by omega
      have hj0 : (0 : Int) ≤ (j : Int) := by omega
      have hij : (256 : Int) - 1 - k = (j : Int) := by omega
      rw [hij]
      have hSk := hS1.out k
      rw [show 256 - 1 - k = j by omega] at hSk
      have e1 := hq1 j hjn
      have e2 := hq2 j hjn
      have hkm : Hid (k < 256) := Lib.hid (by omega)
      have hjk : Hid (j = 255 - k) := Lib.hid hj
      clear he hk hij hj
      replace hSk := Lib.hid hSk
      replace hq1 := Lib.hid hq1
      replace hq2 := Lib.hid hq2
      have hkS := Lib.hid hS
      have gS := hS.lt
      have hC := hCv.out.below hb0 hCv.out.lt
      have loC : 1 < GS := by have := hCv.out.lt; omega
      clear hS
      go_wp2_with fail
      refine (tdbl_c GS wr hkS.out).mono ?_
      rintro e w5 ⟨rfl, hS5, hg⟩
      replace k4 := k4.grown hg (fun h => n4S.out (by injection h with h; exact h.symm))
      replace k9 := k9.grown hg (fun h => n9S.out (by injection h with h; exact h.symm))
      replace k6 := k6.grown hg (fun h => n6S.out (by injection h with h; exact h.symm))
      replace hb0 := hb0.grown hg hb0.size (fun k hk => by injection hk with hk; omega)
      replace hC := hC.grown hg loC
      replace e1 := (hg.cell_far ⟨r1, j, none⟩ ltr1 (fun e => nr1.out (Option.some.inj e))).trans e1
      replace e2 := (hg.cell_far ⟨r2, j, none⟩ ltr2 (fun e => nr2.out (Option.some.inj e))).trans e2
      replace hq1 := Lib.hid (fun j hj => (hg.cell_far ⟨r1, j, none⟩ ltr1 (fun e => nr1.out (Option.some.inj e))).trans (hq1.out j hj))
      replace hq2 := Lib.hid (fun j hj => (hg.cell_far ⟨r2, j, none⟩ ltr2 (fun e => nr2.out (Option.some.inj e))).trans (hq2.out j hj))
      replace ltr1 := Nat.lt_of_lt_of_le ltr1 hg.size
      replace ltr2 := Nat.lt_of_lt_of_le ltr2 hg.size
      clear hg gS hkS
      replace hS5 := Lib.hid hS5
      cases hAj : A j <;> cases hBj : B j <;> rw [hAj] at e1 <;> rw [hBj] at e2 <;> rw [hAj, hBj] at hSk
      · skip
        go_wp2
        go_roundw
        case rel => exact ⟨k + 1, hkm.out, by have := hjk.out; have := hkm.out; congr 1; omega, by rw [hSk.out]; exact hS5.out, k4, k9, k6, hq1.out, hq2.out, ltr1, ltr2, hb0⟩
        case measure => have := hjk.out; first | (simp [intOf]; done) | (simp [intOf]; omega)
      · skip
        go_wp2_with (first | (refine ldPt rfl rfl rfl k9 rfl ?_))
        refine (tadd_c GS w5 hS5.out hE2.out hC).mono ?_
        rintro e w7 ⟨rfl, hSw7, hg⟩
        replace k4 := k4.grown hg (fun h => n4S.out (by injection h with h; exact h.symm))
        replace k9 := k9.grown hg (fun h => n9S.out (by injection h with h; exact h.symm))
        replace k6 := k6.grown hg (fun h => n6S.out (by injection h with h; exact h.symm))
        replace hb0 := hb0.grown hg hb0.size (fun k hk => by injection hk with hk; omega)
        replace hC := hC.grown hg loC
        replace e1 := (hg.cell_far ⟨r1, j, none⟩ ltr1 (fun e => nr1.out (Option.some.inj e))).trans e1
        replace e2 := (hg.cell_far ⟨r2, j, none⟩ ltr2 (fun e => nr2.out (Option.some.inj e))).trans e2
        replace hq1 := Lib.hid (fun j hj => (hg.cell_far ⟨r1, j, none⟩ ltr1 (fun e => nr1.out (Option.some.inj e))).trans (hq1.out j hj))
        replace hq2 := Lib.hid (fun j hj => (hg.cell_far ⟨r2, j, none⟩ ltr2 (fun e => nr2.out (Option.some.inj e))).trans (hq2.out j hj))
        replace ltr1 := Nat.lt_of_lt_of_le ltr1 hg.size
        replace ltr2 := Nat.lt_of_lt_of_le ltr2 hg.size
        clear hg
        replace hSw7 := Lib.hid hSw7
        go_wp2
        go_roundw
        case rel => exact ⟨k + 1, hkm.out, by have := hjk.out; have := hkm.out; congr 1; omega, by rw [hSk.out]; exact hSw7.out, k4, k9, k6, hq1.out, hq2.out, ltr1, ltr2, hb0⟩
        case measure => have := hjk.out; first | (simp [intOf]; done) | (simp [intOf]; omega)
      · skip
        go_wp2_with (first | (refine ldPt rfl rfl rfl k4 rfl ?_))
        refine (tadd_c GS w5 hS5.out hp.out hC).mono ?_
        rintro e w6 ⟨rfl, hSw6, hg⟩
        replace k4 := k4.grown hg (fun h => n4S.out (by injection h with h; exact h.symm))
        replace k9 := k9.grown hg (fun h => n9S.out (by injection h with h; exact h.symm))
        replace k6 := k6.grown hg (fun h => n6S.out (by injection h with h; exact h.symm))
        replace hb0 := hb0.grown hg hb0.size (fun k hk => by injection hk with hk; omega)
        replace hC := hC.grown hg loC
        replace e1 := (hg.cell_far ⟨r1, j, none⟩ ltr1 (fun e => nr1.out (Option.some.inj e))).trans e1
        replace e2 := (hg.cell_far ⟨r2, j, none⟩ ltr2 (fun e => nr2.out (Option.some.inj e))).trans e2
        replace hq1 := Lib.hid (fun j hj => (hg.cell_far ⟨r1, j, none⟩ ltr1 (fun e => nr1.out (Option.some.inj e))).trans (hq1.out j hj))
        replace hq2 := Lib.hid (fun j hj => (hg.cell_far ⟨r2, j, none⟩ ltr2 (fun e => nr2.out (Option.some.inj e))).trans (hq2.out j hj))
        replace ltr1 := Nat.lt_of_lt_of_le ltr1 hg.size
        replace ltr2 := Nat.lt_of_lt_of_le ltr2 hg.size
        clear hg
        replace hSw6 := Lib.hid hSw6
        go_wp2
        go_roundw
        case rel => exact ⟨k + 1, hkm.out, by have := hjk.out; have := hkm.out; congr 1; omega, by rw [hSk.out]; exact hSw6.out, k4, k9, k6, hq1.out, hq2.out, ltr1, ltr2, hb0⟩
        case measure => have := hjk.out; first | (simp [intOf]; done) | (simp [intOf]; omega)
      · skip
        go_wp2_with (first | (refine ldPt rfl rfl rfl k4 rfl ?_))
        refine (tadd_c GS w5 hS5.out hp.out hC).mono ?_
        rintro e w6 ⟨rfl, hSw6, hg⟩
        replace k4 := k4.grown hg (fun h => n4S.out (by injection h with h; exact h.symm))
        replace k9 := k9.grown hg (fun h => n9S.out (by injection h with h; exact h.symm))
        replace k6 := k6.grown hg (fun h => n6S.out (by injection h with h; exact h.symm))
        replace hb0 := hb0.grown hg hb0.size (fun k hk => by injection hk with hk; omega)
        replace hC := hC.grown hg loC
        replace e1 := (hg.cell_far ⟨r1, j, none⟩ ltr1 (fun e => nr1.out (Option.some.inj e))).trans e1
        replace e2 := (hg.cell_far ⟨r2, j, none⟩ ltr2 (fun e => nr2.out (Option.some.inj e))).trans e2
        replace hq1 := Lib.hid (fun j hj => (hg.cell_far ⟨r1, j, none⟩ ltr1 (fun e => nr1.out (Option.some.inj e))).trans (hq1.out j hj))
        replace hq2 := Lib.hid (fun j hj => (hg.cell_far ⟨r2, j, none⟩ ltr2 (fun e => nr2.out (Option.some.inj e))).trans (hq2.out j hj))
        replace ltr1 := Nat.lt_of_lt_of_le ltr1 hg.size
        replace ltr2 := Nat.lt_of_lt_of_le ltr2 hg.size
        clear hg
        replace hSw6 := Lib.hid hSw6
        go_wp2_with (first | (refine ldPt rfl rfl rfl k9 rfl ?_))
        refine (tadd_c GS w6 hSw6.out hE2.out hC).mono ?_
        rintro e w7 ⟨rfl, hSw7, hg⟩
        replace k4 := k4.grown hg (fun h => n4S.out (by injection h with h; exact h.symm))
        replace k9 := k9.grown hg (fun h => n9S.out (by injection h with h; exact h.symm))
        replace k6 := k6.grown hg (fun h => n6S.out (by injection h with h; exact h.symm))
        replace hb0 := hb0.grown hg hb0.size (fun k hk => by injection hk with hk; omega)
        replace hC := hC.grown hg loC
        replace e1 := (hg.cell_far ⟨r1, j, none⟩ ltr1 (fun e => nr1.out (Option.some.inj e))).trans e1
        replace e2 := (hg.cell_far ⟨r2, j, none⟩ ltr2 (fun e => nr2.out (Option.some.inj e))).trans e2
        replace hq1 := Lib.hid (fun j hj => (hg.cell_far ⟨r1, j, none⟩ ltr1 (fun e => nr1.out (Option.some.inj e))).trans (hq1.out j hj))
        replace hq2 := Lib.hid (fun j hj => (hg.cell_far ⟨r2, j, none⟩ ltr2 (fun e => nr2.out (Option.some.inj e))).trans (hq2.out j hj))
        replace ltr1 := Nat.lt_of_lt_of_le ltr1 hg.size
        replace ltr2 := Nat.lt_of_lt_of_le ltr2 hg.size
        clear hg
        replace hSw7 := Lib.hid hSw7
        go_wp2
        go_roundw
        case rel => exact ⟨k + 1, hkm.out, by have := hjk.out; have := hkm.out; congr 1; omega, by rw [hSk.out]; exact hSw7.out, k4, k9, k6, hq1.out, hq2.out, ltr1, ltr2, hb0⟩
        case measure => have := hjk.out; first | (simp [intOf]; done) | (simp [intOf]; omega)
set_option maxRecDepth 20000 in
set_option maxHeartbeats 8000000 in
theorem both_xx (p1 : Option Addr) (n1 c1 : Nat) (hn1 : n1 ≠ 32) (p2 : Option Addr) (n2 c2 : Nat) (hn2 : n2 ≠ 32) {X Y Z T : Fe.E} {x y : Fin Fe.P} (w : World)   (hp : PtE X Y Z T x y) (hCv : CvP w) :
    Calls Tryd.prog 46 #[.slice p1 n1 c1, .agg (pcs X Y Z T), .slice p2 n2 c2] w (PostQ (Fe.bothS x y (Fe.zf Fe.bX) (Fe.zf Fe.bY) (fun _ => false) (fun _ => false) 0 0).1 (Fe.bothS x y (Fe.zf Fe.bX) (Fe.zf Fe.bY) (fun _ => false) (fun _ => false) 0 0).2 w) := by
  have hbx1 := Lib.hid (fun w1 => sbits_x p1 n1 c1 hn1 w1)
  clear hn1
  have hbx2 := Lib.hid (fun w1 => sbits_x p2 n2 c2 hn2 w1)
  clear hn2
  obtain ⟨xb, hxb⟩ : ∃ v, Fe.zf Fe.bX = v := ⟨_, rfl⟩
  obtain ⟨yb, hyb⟩ : ∃ v, Fe.zf Fe.bY = v := ⟨_, rfl⟩
  have hbase := base_c
  rw [hxb, hyb] at hbase ⊢
  replace hbase := Lib.hid hbase
  clear hxb hyb
  obtain ⟨A, hA⟩ : ∃ A : Nat → Bool, A = (fun _ => false) := ⟨_, rfl⟩
  rw [← hA]
  replace hA := Lib.hid hA
  replace hp := Lib.hid hp
  replace hCv := Lib.hid hCv
  obtain ⟨S, hS⟩ : ∃ S, S = Fe.bothS x y xb yb A A 0 := ⟨_, rfl⟩
  rw [← hS]
  have hS0 : S 0 = (0, 1) := by rw [hS]; rfl
  have hS1 : ∀ k, S (k + 1) = if A (0 - 1 - k) then (Fe.ax (stepF x y (S k) (A (0 - 1 - k))).1 (stepF x y (S k) (A (0 - 1 - k))).2 xb yb, Fe.ay (stepF x y (S k) (A (0 - 1 - k))).1 (stepF x y (S k) (A (0 - 1 - k))).2 xb yb) else stepF x y (S k) (A (0 - 1 - k)) := fun k => by rw [hS]; rfl
  clear hS
  replace hS0 := Lib.hid hS0
  replace hS1 := Lib.hid hS1
  go_enter Tryd.func46, Tryd.ntmps46
  go_wp2_with fail
  refine calls_at (fun W0 hW => ?_)
  have k4 : Blk W0 w.heap.size 29 (pcs X Y Z T) := by rw [hW]; exact (Blk.new _ _ _).alloc _
  have k6 : Blk W0 (w.heap.size + 1) 29 (pcs ⟨0, 0, 0, 0, 0⟩ ⟨0, 0, 0, 0, 0⟩ ⟨0, 0, 0, 0, 0⟩ ⟨0, 0, 0, 0, 0⟩) := by rw [hW]; exact blk_at (by simp) (Blk.new _ _ _)
  have hb0 : Below w.heap.size w W0 := by rw [hW]; go_grown
  clear hW
  obtain ⟨G6, hG6⟩ : ∃ G, G = w.heap.size + 1 := ⟨_, rfl⟩
  obtain ⟨G4, hG4⟩ : ∃ G, G = w.heap.size := ⟨_, rfl⟩
  rw [← hG6] at k6 ⊢
  rw [← hG4] at k4 ⊢
  have lo6 : w.heap.size ≤ G6 := by omega
  clear hG4 hG6
  refine (hbx1.out W0).mono ?_
  rintro e v1 ⟨rfl, hwv⟩
  subst hwv
  clear hbx1
  go_wp2_with fail
  refine (hbx2.out W0).mono ?_
  rintro e v2 ⟨rfl, hwv⟩
  subst hwv
  clear hbx2
  go_wp2_with (first | (at_builtin; refine Lib.wpList_append_run _ rfl _ _ _ _ rfl _ _ rfl rfl _ _ (run_app0b _ _ _ _ _ (by omega)) ?_))
  clear hA
  refine (hbase.out W0 (hCv.out.below hb0 hCv.out.lt)).mono ?_
  rintro e v3 ⟨X2, Y2, Z2, T2, rfl, hE2, hb⟩
  replace hE2 := Lib.hid hE2
  replace k4 := k4.below hb
  replace k6 := k6.below hb
  replace hb0 := hb0.trans (hb.mono hb0.size)
  clear hb hbase
  have k4lt := k4.lt
  have k6lt := k6.lt
  go_wp2_with (refine stPt rfl rfl rfl rfl (Blk.new _ _ _) rfl rfl (by kernel_rfl) ?_; intro v4 k9 hgr hsz)
  have hb : Below v3.heap.size v3 v4 := ((Below.refl _ _).alloc (Nat.le_refl _) _).grown hgr (by rw [World.size_alloc]; omega) (fun k hk => by injection hk with hk; omega)
  obtain ⟨G9, hG9⟩ : ∃ G, G = v3.heap.size := ⟨_, rfl⟩
  rw [← hG9] at k9 ⊢
  clear hG9 hgr hsz k4lt k6lt
  replace k4 := k4.below hb
  replace k6 := k6.below hb
  replace hb0 := hb0.trans (hb.mono hb0.size)
  clear hb
  refine (zero4_c _).mono ?_
  rintro e v5 ⟨rfl, hb⟩
  replace k4 := k4.below hb
  replace k6 := k6.below hb
  replace k9 := k9.below hb
  replace hb0 := hb0.trans (hb.mono hb0.size)
  clear hb
  have hlt := k6.lt
  have hlt4 := k4.lt
  have hlt9 := k9.lt
  go_wp2_with (refine stSm (X := ⟨0, 0, 0, 0, 0⟩) (Y := ⟨1, 0, 0, 0, 0⟩) (Z := ⟨1, 0, 0, 0, 0⟩) (T := ⟨0, 0, 0, 0, 0⟩) rfl rfl rfl rfl (Blk.new _ _ _) rfl ?_; intro v6 kS1 hgr hsz; obtain ⟨V6, hV6⟩ : ∃ V : Value, V = .agg #[.int .u64 0, .int .u64 0, .int .u64 0, .int .u64 0, .int .u64 0, .int .u64 1, .int .u64 0, .int .u64 0, .int .u64 0, .int .u64 0, .int .u64 1, .int .u64 0, .int .u64 0, .int .u64 0, .int .u64 0, .int .u64 0, .int .u64 0, .int .u64 0, .int .u64 0, .int .u64 0] := ⟨_, rfl⟩; rw [← hV6]; clear hV6)
  have hb : Below v5.heap.size v5 v6 := ((Below.refl _ _).alloc (Nat.le_refl _) _).grown hgr (by rw [World.size_alloc]; omega) (fun k hk => by injection hk with hk; omega)
  have kS : SumQ v6 v5.heap.size (S 0).1 (S 0).2 := by rw [hS0.out]; exact ⟨_, _, _, _, kS1, ptE_zero⟩
  clear kS1 hgr hsz hS0
  obtain ⟨GS, hGS⟩ : ∃ GS, GS = v5.heap.size := ⟨_, rfl⟩
  rw [← hGS] at kS ⊢
  have n4S := Lib.hid (show GS ≠ G4 by omega)
  have n6S := Lib.hid (show GS ≠ G6 by omega)
  have n9S := Lib.hid (show GS ≠ G9 by omega)
  have loS : w.heap.size ≤ GS := by have := hb0.size; omega
  replace k4 := k4.below hb
  replace k6 := k6.below hb
  replace k9 := k9.below hb
  replace hb0 := hb0.trans (hb.mono hb0.size)
  clear hb hGS hlt hlt4 hlt9
  replace kS := Lib.hid kS
  go_loopw [11] (fun i wr => ∃ k : Nat, k ≤ 0 ∧ i = .int .i64 (0 - 1 - k) ∧ SumQ wr GS (S k).1 (S k).2 ∧ Blk wr G4 29 (pcs X Y Z T) ∧ Blk wr G9 29 (pcs X2 Y2 Z2 T2) ∧ Blk wr G6 29 (pcs ⟨0, 0, 0, 0, 0⟩ ⟨0, 0, 0, 0, 0⟩ ⟨0, 0, 0, 0, 0⟩ ⟨0, 0, 0, 0, 0⟩) ∧ Below w.heap.size w wr) (fun i _ => (intOf i + 1).toNat)
  case atStart => exact ⟨0, by omega, by simp, kS.out, k4, k9, k6, hb0⟩
  case round =>
    clear kS k4 k9 k6 hb0
    obtain ⟨k, hk, hi, hS, k4, k9, k6, hb0⟩ := hrel
    subst hi
    by_cases he : k = 0
    · as_aux_lemma =>
      subst he
      obtain ⟨X3, Y3, Z3, T3, kS, hE⟩ := hS
      replace hE := Lib.hid hE
      go_wp2_with (first | (refine ldPt rfl rfl rfl kS rfl ?_) | (refine stPt rfl rfl rfl rfl k6 rfl rfl (by kernel_rfl) ?_; intro w9 k7 hgr hsz))
      exact retPt rfl rfl k7 rfl rfl ⟨X3, Y3, Z3, T3, rfl, hE.out, hb0.grown hgr hb0.size (fun k hk => by injection hk with hk; omega)⟩
    exact absurd (Nat.le_zero.1 hk) he
end Go.Proofs.YtpaldgajkhmhbaaDoor

namespace Fe
theorem rb45 : 4 * (5 ^ (P - 2) % P) % P = bY := by
  have h5 : zf 5 ≠ 0 := fun h => absurd ((zf_zero (show 5 < P by unfold P; decide)).1 h) (by decide)
  have hb : zf bY * zf 5 = zf 4 := by
    rw [← zf_mul]
    exact (zf_inj (a := bY * 5 % P) (b := 4 % P) (mod_lt' _) (mod_lt' _)).2 (by decide +kernel) |> fun h => by rw [zf_mod, zf_mod] at h; exact h
  refine (zf_inj (mod_lt' _) (show bY < P by unfold bY P; decide)).1 ?_
  rw [zf_mod, zf_mul, ← fi_zf, ← hb]
  have := fi_mul h5
  generalize fi (zf 5) = u at *
  generalize zf 5 = z at *
  generalize zf bY = q at *
  clear hb h5
  grind
theorem rb_bb (j : Nat) (h : j < 32) : Dg.rb bY j = bb j := by
  have : ∀ j : Fin 32, Dg.rb bY j.val = bb j.val := by decide +kernel
  exact this ⟨j, h⟩
theorem ra_base : RA bX bY 1 (zf bX) (zf bY) := by
  have h := pa_got (n := bY) (odd := false) (show bY < P by unfold bY P; decide) gB_bb
  rw [gX_bb] at h
  exact h.ra
end Fe
namespace Go.Proofs.YtpaldgajkhmhbaaDoor
open Go.RowKit
set_option maxRecDepth 20000 in
set_option maxHeartbeats 4000000 in
theorem rbase_c (w : World) : Calls Tryd.prog 50 #[] w (PostRp (Fe.zf Fe.bX) (Fe.zf Fe.bY) w) := by
  have h4 : ∀ w, Calls Tryd.prog 63 #[.int .u64 4] w (PostN (Dg.dg 4) w) := number_c 4 (by decide)
  have h5 : ∀ w, Calls Tryd.prog 63 #[.int .u64 5] w (PostN (Dg.dg 5) w) := number_c 5 (by decide)
  have hI := rInv_c 5 (by unfold Fe.P; decide)
  have hM := rMul_c 4 (5 ^ (Fe.P - 2) % Fe.P) (by unfold Fe.P; decide) (Nat.mod_lt _ Fe.P_pos)
  rw [Fe.rb45] at hM
  have hB : ∀ w, Calls Tryd.prog 67 #[.agg (av (Dg.dg Fe.bY))] w (PostRb Fe.bb w) := fun w => by
    refine (rb_own Fe.bY w).mono ?_
    rintro e w' ⟨g, c, h1, h2, h3, h4⟩
    exact ⟨g, c, h1, h2, h3.congr Fe.rb_bb, h4⟩
  have hR : ∀ g c w, RowB w g 32 c Fe.bb → Calls Tryd.prog 14 #[.slice (some ⟨g, 0, none⟩) 32 c] w (PostRd true (Dg.dg Fe.bX) (Dg.dg Fe.bY) (Dg.dg 1) w) := fun g c w h => by
    have q := rread_c g 0 c Fe.bb Fe.bb_r w h.lt (fun j hj => by rw [Nat.zero_add]; exact h.cell j hj)
    rw [Fe.okB_bb, Fe.nB_bb, Fe.odB_bb, Fe.gX_bb] at q
    exact q
  have hra := Fe.ra_base
  obtain ⟨x, hx⟩ : ∃ x, Fe.zf Fe.bX = x := ⟨_, rfl⟩
  obtain ⟨y, hy⟩ : ∃ y, Fe.zf Fe.bY = y := ⟨_, rfl⟩
  rw [hx, hy] at hra ⊢
  obtain ⟨A, hA⟩ : ∃ A, Fe.bX = A := ⟨_, rfl⟩
  obtain ⟨B, hB'⟩ : ∃ B, Fe.bY = B := ⟨_, rfl⟩
  obtain ⟨C, hC⟩ : ∃ C, 1 = C := ⟨_, rfl⟩
  obtain ⟨b, hb⟩ : ∃ b, Fe.bb = b := ⟨_, rfl⟩
  rw [hA, hB', hC] at hra hR
  rw [hB'] at hM hB
  rw [hb] at hB hR
  obtain ⟨D4, e4⟩ : ∃ D, Dg.dg 4 = D := ⟨_, rfl⟩
  obtain ⟨D5, e5⟩ : ∃ D, Dg.dg 5 = D := ⟨_, rfl⟩
  obtain ⟨DI, eI⟩ : ∃ D, Dg.dg (5 ^ (Fe.P - 2) % Fe.P) = D := ⟨_, rfl⟩
  rw [e4] at h4 hM
  rw [e5] at h5 hI
  rw [eI] at hI hM
  clear e4 e5 eI hA hB' hC hb hx hy
  replace h4 := Lib.hid h4
  replace h5 := Lib.hid h5
  replace hI := Lib.hid hI
  replace hM := Lib.hid hM
  replace hB := Lib.hid hB
  replace hR := Lib.hid hR
  replace hra := Lib.hid hra
  obtain ⟨DY, eY⟩ : ∃ D, Dg.dg B = D := ⟨_, rfl⟩
  rw [eY] at hM hB
  replace eY := Lib.hid eY
  go_enter Tryd.func50, Tryd.ntmps50
  go_wp2_with fail
  refine calls_at (fun W0 hW => ?_)
  obtain ⟨old, k0, so⟩ : ∃ old, Blk W0 w.heap.size 35 old ∧ old.size = 48 := by rw [hW]; exact ⟨_, Blk.new _ _ _, rfl⟩
  have hb0 : Below w.heap.size w W0 := by rw [hW]; go_grown
  clear hW
  obtain ⟨G0, hG0⟩ : ∃ G, G = w.heap.size := ⟨_, rfl⟩
  rw [← hG0] at k0 ⊢
  have lo0 : w.heap.size ≤ G0 := by omega
  clear hG0
  refine (h4.out _).mono ?_
  rintro e w1 ⟨rfl, hb⟩
  replace k0 := k0.below hb
  replace hb0 := hb0.trans (hb.mono hb0.size)
  clear hb h4
  go_wp2_with fail
  refine (h5.out _).mono ?_
  rintro e w2 ⟨rfl, hb⟩
  replace k0 := k0.below hb
  replace hb0 := hb0.trans (hb.mono hb0.size)
  clear hb h5
  go_wp2_with fail
  refine (hI.out _).mono ?_
  rintro e w3 ⟨rfl, hb⟩
  replace k0 := k0.below hb
  replace hb0 := hb0.trans (hb.mono hb0.size)
  clear hb hI
  go_wp2_with fail
  refine (hM.out _).mono ?_
  rintro e w4 ⟨rfl, hb⟩
  replace k0 := k0.below hb
  replace hb0 := hb0.trans (hb.mono hb0.size)
  clear hb hM
  have L0 := k0.lt
  go_wp2_with (first | (refine stN (f := DY) (old := fun _ => 0) rfl rfl rfl rfl (Blk.new _ _ _) ?_; intro w5 k1 hgr hsz; replace k0 := (k0.alloc _).grown hgr (fun hh => by injection hh with hh; omega); replace hb0 := (hb0.alloc hb0.size _).grown hgr (Nat.le_trans hb0.size (by simp)) (fun k hk => by injection hk with hk; have := hb0.size; omega); clear hgr hsz) | (refine ldNw (by kernel_rfl) rfl rfl k1 ?_))
  clear L0 k1
  refine (hB.out _).mono ?_
  rintro e w6 ⟨g, c, _, rfl, hR1, hb⟩
  replace k0 := k0.below hb
  replace hb0 := hb0.trans (hb.mono hb0.size)
  clear hb hB
  replace hR1 := Lib.hid hR1
  go_wp2_with fail
  refine (hR.out g c w6 hR1.out).mono ?_
  rintro e w7 ⟨⟨cs, rfl, hs, ho, hcs⟩, hb⟩
  obtain rfl := hcs rfl
  clear hcs hs ho
  replace k0 := k0.below hb
  replace hb0 := hb0.trans (hb.mono hb0.size)
  clear hb hR hR1
  have L0 := k0.lt
  go_wp2_with (first | (refine stT rfl rfl rfl rfl k0 so ?_; intro w9 m0 hgr hsz) | (refine stT rfl rfl rfl rfl (Blk.new _ _ _) rfl ?_; intro w8 k3 hgr hsz; replace k0 := (k0.alloc _).grown hgr (fun hh => by injection hh with hh; omega); replace hb0 := (hb0.alloc hb0.size _).grown hgr (Nat.le_trans hb0.size (by simp)) (fun k hk => by injection hk with hk; have := hb0.size; omega); clear hgr hsz) | (refine ldTw (by kernel_rfl) rfl rfl k3 ?_))
  exact retT rfl rfl m0 rfl ⟨A, B, C, rfl, hra.out, hb0.grown hgr hb0.size (fun k hk => by injection hk with hk; omega)⟩
/-- as many of a point as n bytes say: none, if they are not 32 -/
def mulY (n : Nat) (b : Nat → Int) (x y : Fin Fe.P) : Fin Fe.P × Fin Fe.P := if n = 32 then mulS x y (upto (fun i => (256 - 1 - i, bitB b (256 - 1 - i))) 256) else (0, 1)
theorem mulL_c (g n : Nat) (b : Nat → Int) (hr : ∀ j, 0 ≤ b j ∧ b j < 256) {X Y Z T : Fe.E} {x y : Fin Fe.P} (w : World) (hR : RowB w g (n + 12) (n + 12) (lentF n b)) (hp : PtE X Y Z T x y) (hCv : CvP w) :
    Calls Tryd.prog 45 #[.slice (some ⟨g, 0, none⟩) n (n + 12), .agg (pcs X Y Z T)] w (PostQ (mulY n b x y).1 (mulY n b x y).2 w) := by
  unfold mulY
  by_cases h : n = 32
  · subst h
    rw [if_pos rfl]
    exact pmul_c g 0 (32 + 12) b hr w hR.lt (fun j hj => by rw [Nat.zero_add, hR.cell j (by omega)]; unfold lentF; rw [if_pos hj]) hp hCv
  rw [if_neg h]
  exact pmul_x _ n _ h w hp hCv
theorem mulY_one (b : Nat → Int) (x y : Fin Fe.P) : mulY 32 b x y = Fe.oneS x y (bitB b) 256 256 := by unfold mulY; rw [if_pos rfl, Fe.oneS_mul]
theorem mulY_none {n : Nat} (h : n ≠ 32) (b : Nat → Int) (x y : Fin Fe.P) (m k : Nat) : mulY n b x y = Fe.oneS x y (fun _ => false) m k := by unfold mulY; rw [if_neg h, Fe.oneS_none]
theorem PtE.cvM {X Y Z T : Fe.E} {x y : Fin Fe.P} (h : PtE X Y Z T x y) : Fe.Cv x y := by
  obtain ⟨a, b, c, d, _, _, _, _, hA⟩ := h
  exact hA.cv
theorem bothL_c (g1 n1 : Nat) (b1 : Nat → Int) (hr1 : ∀ j, 0 ≤ b1 j ∧ b1 j < 256) (g2 n2 : Nat) (b2 : Nat → Int) (hr2 : ∀ j, 0 ≤ b2 j ∧ b2 j < 256) {X Y Z T : Fe.E} {x y : Fin Fe.P} (w : World) (hR1 : RowB w g1 (n1 + 12) (n1 + 12) (lentF n1 b1)) (hR2 : RowB w g2 (n2 + 12) (n2 + 12) (lentF n2 b2)) (hp : PtE X Y Z T x y) (hCv : CvP w) :
    Calls Tryd.prog 46 #[.slice (some ⟨g1, 0, none⟩) n1 (n1 + 12), .agg (pcs X Y Z T), .slice (some ⟨g2, 0, none⟩) n2 (n2 + 12)] w (PostQ (Fe.gad (mulY n1 b1 x y) (mulY n2 b2 (Fe.zf Fe.bX) (Fe.zf Fe.bY))).1 (Fe.gad (mulY n1 b1 x y) (mulY n2 b2 (Fe.zf Fe.bX) (Fe.zf Fe.bY))).2 w) := by
  have c1 : ∀ j, j < 32 → n1 = 32 → w.cell? ⟨g1, 0 + j, none⟩ = some (.int .u8 (b1 j)) := fun j hj h => by rw [Nat.zero_add, hR1.cell j (by omega)]; unfold lentF; rw [if_pos (by omega)]
  have c2 : ∀ j, j < 32 → n2 = 32 → w.cell? ⟨g2, 0 + j, none⟩ = some (.int .u8 (b2 j)) := fun j hj h => by rw [Nat.zero_add, hR2.cell j (by omega)]; unfold lentF; rw [if_pos (by omega)]
  have hs := fun A B m k => Fe.both_sum hp.cvM Fe.ra_base.cv A B m k
  by_cases h1 : n1 = 32 <;> by_cases h2 : n2 = 32
  · subst h1; subst h2
    rw [mulY_one, mulY_one, ← hs]
    exact both_ss g1 0 (32 + 12) b1 hr1 g2 0 (32 + 12) b2 hr2 w hR1.lt (fun j hj => c1 j hj rfl) hR2.lt (fun j hj => c2 j hj rfl) hp hCv
  · subst h1
    rw [mulY_one, mulY_none h2 b2 _ _ 256 256, ← hs]
    exact both_sx g1 0 (32 + 12) b1 hr1 _ n2 _ h2 w hR1.lt (fun j hj => c1 j hj rfl) hp hCv
  · subst h2
    rw [mulY_one, mulY_none h1 b1 _ _ 256 256, ← hs]
    exact both_xs _ n1 _ h1 g2 0 (32 + 12) b2 hr2 w hR2.lt (fun j hj => c2 j hj rfl) hp hCv
  rw [mulY_none h1 b1 _ _ 0 0, mulY_none h2 b2 _ _ 0 0, ← hs]
  exact both_xx _ n1 _ h1 _ n2 _ h2 w hp hCv
theorem rmulL_c (g c : Nat) (b : Nat → Int) {A B C : Nat} {x y : Fin Fe.P} (w : World) (hg : g < w.heap.size) (hc : ∀ k, k < 256 → w.cell? ⟨g, k, none⟩ = some (.bool (bitB b k))) (hp : Fe.RA A B C x y) :
    Calls Tryd.prog 48 #[.slice (some ⟨g, 0, none⟩) 256 c, .agg (tcs A B C)] w (PostRp (mulY 32 b x y).1 (mulY 32 b x y).2 w) := by
  have h := rmul_c g 0 256 c (bitB b) (by decide) w hg (fun j hj => by rw [Nat.zero_add]; exact hc j hj) hp
  unfold mulY
  rw [if_pos rfl]
  exact h
end Go.Proofs.YtpaldgajkhmhbaaDoor

namespace Go.Proofs.YtpaldgajkhmhbaaDoor
open Go.RowKit
def BtP (b : Nat → Int) : Value → World → Prop := fun v w => ∃ g c, v = .slice (some ⟨g, 0, none⟩) 256 c ∧ g < w.heap.size ∧ ∀ k, k < 256 → w.cell? ⟨g, k, none⟩ = some (.bool (bitB b k))
theorem sta_bt (b : Nat → Int) : Sta (BtP b) := fun _ _ _ h hb => h.elim fun g h => h.elim fun c h => ⟨g, c, h.1, Nat.lt_of_lt_of_le h.2.1 hb.size, fun k hk => (hb.cell (p := ⟨g, k, none⟩) h.2.1).trans (h.2.2 k hk)⟩
theorem lt_of_bits {g : Nat} {w : World} {f : Nat → Bool} (h : ∀ k, k < 256 → w.cell? ⟨g, k, none⟩ = some (.bool (f k))) : g < w.heap.size :=
  (Nat.lt_or_ge g w.heap.size).elim id (fun hg => by
    have := h 0 (by decide)
    simp only [World.cell?, Array.getElem?_eq_none hg] at this
    cases this)
def mu7L (n1 : Nat) (n2 : Nat) (b1 : Nat → Int) (b2 : Nat → Int) (g1 : Nat) (g2 : Nat) (x : Fin Fe.P) (y : Fin Fe.P) (bx : Fin Fe.P) (by' : Fin Fe.P) (B0 : Nat) : List (Value → World → Prop) := [
  Eq1 (.slice (some ⟨g1, 0, none⟩) n1 (n1 + 12)),
  PqP x y,
  PqP ((mulY n1 b1 x y).1) ((mulY n1 b1 x y).2),
  Eq1 (.slice (some ⟨g1, 0, none⟩) n1 (n1 + 12)),
  PqP x y,
  Eq1 (.slice (some ⟨g2, 0, none⟩) n2 (n2 + 12)),
  PqP ((Fe.gad (mulY n1 b1 x y) (mulY n2 b2 bx by')).1) ((Fe.gad (mulY n1 b1 x y) (mulY n2 b2 bx by')).2),
  NewB B0 29 #[.int .u64 0, .int .u64 0, .int .u64 0, .int .u64 0, .int .u64 0, .int .u64 0, .int .u64 0, .int .u64 0, .int .u64 0, .int .u64 0, .int .u64 0, .int .u64 0, .int .u64 0, .int .u64 0, .int .u64 0, .int .u64 0, .int .u64 0, .int .u64 0, .int .u64 0, .int .u64 0],
  NewB B0 29 #[.int .u64 0, .int .u64 0, .int .u64 0, .int .u64 0, .int .u64 0, .int .u64 0, .int .u64 0, .int .u64 0, .int .u64 0, .int .u64 0, .int .u64 0, .int .u64 0, .int .u64 0, .int .u64 0, .int .u64 0, .int .u64 0, .int .u64 0, .int .u64 0, .int .u64 0, .int .u64 0]]
theorem mu7S (n1 : Nat) (n2 : Nat) (b1 : Nat → Int) (b2 : Nat → Int) (g1 : Nat) (g2 : Nat) (x : Fin Fe.P) (y : Fin Fe.P) (bx : Fin Fe.P) (by' : Fin Fe.P) (B0 : Nat) : ∀ j x' q q', (mu7L n1 n2 b1 b2 g1 g2 x y bx by' B0).getD j (fun _ _ => True) x' q → Below q.heap.size q q' → (mu7L n1 n2 b1 b2 g1 g2 x y bx by' B0).getD j (fun _ _ => True) x' q' := by
  refine sta_all _ ?_
  simp only [mu7L, List.mem_cons, forall_eq_or_imp, List.not_mem_nil, false_implies, implies_true, and_true]
  exact ⟨sta_eq _, sta_pq _ _, sta_pq _ _, sta_eq _, sta_pq _ _, sta_eq _, sta_pq _ _, sta_new _ _ _, sta_new _ _ _⟩
theorem mu7O (n1 : Nat) (n2 : Nat) (b1 : Nat → Int) (b2 : Nat → Int) (g1 : Nat) (g2 : Nat) (x : Fin Fe.P) (y : Fin Fe.P) (bx : Fin Fe.P) (by' : Fin Fe.P) (B0 : Nat) : ∀ j x' q, (fun j => j == 7 || j == 8) j = true → (mu7L n1 n2 b1 b2 g1 g2 x y bx by' B0).getD j (fun _ _ => True) x' q → ∀ g, x' = .pointer (some ⟨g, 0, none⟩) → g < q.heap.size := by
  intro j x' q hj hv g e
  have hj' : j = 7 ∨ j = 8 := by simpa only [Bool.or_eq_true, beq_iff_eq, or_assoc] using hj
  rcases hj' with rfl | rfl
  all_goals exact new_lt hv e
def mu10L (n1 : Nat) (b1 : Nat → Int) (c1 : Nat) (q1 : Option Addr) (x : Fin Fe.P) (y : Fin Fe.P) : List (Value → World → Prop) := [
  Eq1 (.slice q1 n1 c1),
  BtP b1,
  PqP x y,
  RqP x y,
  RqP ((mulY 32 b1 x y).1) ((mulY 32 b1 x y).2)]
theorem mu10S (n1 : Nat) (b1 : Nat → Int) (c1 : Nat) (q1 : Option Addr) (x : Fin Fe.P) (y : Fin Fe.P) : ∀ j x' q q', (mu10L n1 b1 c1 q1 x y).getD j (fun _ _ => True) x' q → Below q.heap.size q q' → (mu10L n1 b1 c1 q1 x y).getD j (fun _ _ => True) x' q' := by
  refine sta_all _ ?_
  simp only [mu10L, List.mem_cons, forall_eq_or_imp, List.not_mem_nil, false_implies, implies_true, and_true]
  exact ⟨sta_eq _, sta_bt _, sta_pq _ _, sta_rq _ _, sta_rq _ _⟩
def mu13L (D : Nat → Int) (n1 : Nat) (n2 : Nat) (b1 : Nat → Int) (b2 : Nat → Int) (x : Fin Fe.P) (y : Fin Fe.P) (bx : Fin Fe.P) (by' : Fin Fe.P) (wc : World) : List (Value → World → Prop) := [
  Eq1 (.agg (av D)),
  RqP ((mulY n1 b1 x y).1) ((mulY n1 b1 x y).2),
  RqP ((mulY n2 b2 bx by').1) ((mulY n2 b2 bx by').2),
  RqP (Fe.ax ((mulY n1 b1 x y).1) ((mulY n1 b1 x y).2) ((mulY n2 b2 bx by').1) ((mulY n2 b2 bx by').2)) (Fe.ay ((mulY n1 b1 x y).1) ((mulY n1 b1 x y).2) ((mulY n2 b2 bx by').1) ((mulY n2 b2 bx by').2)),
  NewS wc.heap.size]
theorem mu13S (D : Nat → Int) (n1 : Nat) (n2 : Nat) (b1 : Nat → Int) (b2 : Nat → Int) (x : Fin Fe.P) (y : Fin Fe.P) (bx : Fin Fe.P) (by' : Fin Fe.P) (wc : World) : ∀ j x' q q', (mu13L D n1 n2 b1 b2 x y bx by' wc).getD j (fun _ _ => True) x' q → Below q.heap.size q q' → (mu13L D n1 n2 b1 b2 x y bx by' wc).getD j (fun _ _ => True) x' q' := by
  refine sta_all _ ?_
  simp only [mu13L, List.mem_cons, forall_eq_or_imp, List.not_mem_nil, false_implies, implies_true, and_true]
  exact ⟨sta_eq _, sta_rq _ _, sta_rq _ _, sta_rq _ _, sta_ns _⟩
def mu14L (n1 : Nat) (n2 : Nat) (b1 : Nat → Int) (b2 : Nat → Int) (g1 : Nat) (g2 : Nat) (c1 : Nat) (c2 : Nat) (q1 : Option Addr) (q2 : Option Addr) (x : Fin Fe.P) (y : Fin Fe.P) (bx : Fin Fe.P) (by' : Fin Fe.P) : List (Value → World → Prop) := [
  PqP ((mulY n1 b1 x y).1) ((mulY n1 b1 x y).2),
  Eq1 (.bool true),
  Eq1 (.bool true),
  PqP ((Fe.gad (mulY n1 b1 x y) (mulY n2 b2 bx by')).1) ((Fe.gad (mulY n1 b1 x y) (mulY n2 b2 bx by')).2),
  Eq1 (.bool true),
  Eq1 (.bool true),
  Eq1 (.bool true),
  PqP ((mulY n1 b1 x y).1) ((mulY n1 b1 x y).2),
  RqP ((mulY n1 b1 x y).1) ((mulY n1 b1 x y).2),
  RqP ((mulY n1 b1 x y).1) ((mulY n1 b1 x y).2),
  Eq1 (.bool true),
  Eq1 (.bool true),
  Eq1 (.bool true),
  PqP ((Fe.gad (mulY n1 b1 x y) (mulY n2 b2 bx by')).1) ((Fe.gad (mulY n1 b1 x y) (mulY n2 b2 bx by')).2),
  RqP ((Fe.gad (mulY n1 b1 x y) (mulY n2 b2 bx by')).1) ((Fe.gad (mulY n1 b1 x y) (mulY n2 b2 bx by')).2),
  RqP (Fe.ax ((mulY n1 b1 x y).1) ((mulY n1 b1 x y).2) ((mulY n2 b2 bx by').1) ((mulY n2 b2 bx by').2)) (Fe.ay ((mulY n1 b1 x y).1) ((mulY n1 b1 x y).2) ((mulY n2 b2 bx by').1) ((mulY n2 b2 bx by').2)),
  Eq1 (.bool true),
  Eq1 (.bool true),
  Eq1 (.bool true),
  Eq1 (.slice (some ⟨g1, 0, none⟩) n1 (n1 + 12)),
  Eq1 (.slice q1 n1 c1),
  Eq1 (.bool true),
  Eq1 (.bool true),
  Eq1 (.bool true),
  Eq1 (.slice (some ⟨g2, 0, none⟩) n2 (n2 + 12)),
  Eq1 (.slice q2 n2 c2),
  Eq1 (.bool true),
  Eq1 (.bool true),
  Eq1 (.bool true)]
theorem mu14S (n1 : Nat) (n2 : Nat) (b1 : Nat → Int) (b2 : Nat → Int) (g1 : Nat) (g2 : Nat) (c1 : Nat) (c2 : Nat) (q1 : Option Addr) (q2 : Option Addr) (x : Fin Fe.P) (y : Fin Fe.P) (bx : Fin Fe.P) (by' : Fin Fe.P) : ∀ j x' q q', (mu14L n1 n2 b1 b2 g1 g2 c1 c2 q1 q2 x y bx by').getD j (fun _ _ => True) x' q → Below q.heap.size q q' → (mu14L n1 n2 b1 b2 g1 g2 c1 c2 q1 q2 x y bx by').getD j (fun _ _ => True) x' q' := by
  refine sta_all _ ?_
  simp only [mu14L, List.mem_cons, forall_eq_or_imp, List.not_mem_nil, false_implies, implies_true, and_true]
  exact ⟨sta_pq _ _, sta_eq _, sta_eq _, sta_pq _ _, sta_eq _, sta_eq _, sta_eq _, sta_pq _ _, sta_rq _ _, sta_rq _ _, sta_eq _, sta_eq _, sta_eq _, sta_pq _ _, sta_rq _ _, sta_rq _ _, sta_eq _, sta_eq _, sta_eq _, sta_eq _, sta_eq _, sta_eq _, sta_eq _, sta_eq _, sta_eq _, sta_eq _, sta_eq _, sta_eq _, sta_eq _⟩
set_option maxRecDepth 20000 in
set_option maxHeartbeats 8000000 in
theorem mul4_c (q1 : Option Addr) (n1 c1 : Nat) (b1 : Nat → Int) (q2 : Option Addr) (n2 c2 : Nat) (b2 : Nat → Int) (q3 : Option Addr) (n3 c3 : Nat) (b3 : Nat → Int) (hr1 : ∀ j, 0 ≤ b1 j ∧ b1 j < 256) (hr2 : ∀ j, 0 ≤ b2 j ∧ b2 j < 256) (hr3 : ∀ j, 0 ≤ b3 j ∧ b3 j < 256) (hn1 : n1 ≤ 100) (hn2 : n2 ≤ 100) (hn3 : n3 ≤ 100) (w : World) (hS1 : SAt w q1 n1 c1 b1) (hS2 : SAt w q2 n2 c2 b2) (hS3 : SAt w q3 n3 c3 b3) (hCv : CvP w) : Calls Tryd.prog 8 #[.slice q1 n1 c1, .slice q2 n2 c2, .slice q3 n3 c3] w fun e w' => e = .returned (.bool true) ∧ Below w.heap.size w w' := by
  obtain ⟨D, hd, hadd⟩ := radd_D
  replace hadd := Lib.hid hadd
  replace hd := Lib.hid hd
  have hi1 : (n1 : Int) ≤ 100 := by omega
  have hi2 : (n2 : Int) ≤ 100 := by omega
  have hi3 : (n3 : Int) ≤ 100 := by omega
  have hPt := Lib.hid (fun w1 (hb : Below w.heap.size w w1) => point_c q3 n3 c3 b3 hr3 hn3 w1 (hS3.bat.below hb) (hCv.below hb hCv.lt))
  have hL1 := Lib.hid (fun w1 (hb : Below w.heap.size w w1) => lentB_c q1 n1 c1 b1 (by omega) w1 (hS1.below hb))
  have hL2 := Lib.hid (fun w1 (hb : Below w.heap.size w w1) => lentB_c q2 n2 c2 b2 (by omega) w1 (hS2.below hb))
  have hK1 := Lib.hid (fun w1 g (hb : Below w.heap.size w w1) (hR : RowB w1 g (n1 + 12) (n1 + 12) (lentF n1 b1)) => keptB_c g q1 n1 c1 b1 (by omega) w1 (hS1.below hb) hR)
  have hK2 := Lib.hid (fun w1 g (hb : Below w.heap.size w w1) (hR : RowB w1 g (n2 + 12) (n2 + 12) (lentF n2 b2)) => keptB_c g q2 n2 c2 b2 (by omega) w1 (hS2.below hb) hR)
  have hBt1 : n1 = 32 → ∀ w1, Below w.heap.size w w1 → Calls Tryd.prog 49 #[.slice q1 n1 c1] w1 (PostBits b1 w1) := fun h w1 hb => by
    subst h
    obtain ⟨g, o, rfl, hg, hc⟩ := hS1.bat (by decide)
    exact lbits_c g o c1 b1 hr1 w1 (Nat.lt_of_lt_of_le hg hb.size) (fun j hj => (hb.cell (p := ⟨g, o + j, none⟩) hg).trans (hc j hj))
  have hBt2 : n2 = 32 → ∀ w1, Below w.heap.size w w1 → Calls Tryd.prog 49 #[.slice q2 n2 c2] w1 (PostBits b2 w1) := fun h w1 hb => by
    subst h
    obtain ⟨g, o, rfl, hg, hc⟩ := hS2.bat (by decide)
    exact lbits_c g o c2 b2 hr2 w1 (Nat.lt_of_lt_of_le hg hb.size) (fun j hj => (hb.cell (p := ⟨g, o + j, none⟩) hg).trans (hc j hj))
  have hMl := Lib.hid (fun g (X Y Z T : Fe.E) (x y : Fin Fe.P) w1 (hR : RowB w1 g (n1 + 12) (n1 + 12) (lentF n1 b1)) (hp : PtE X Y Z T x y) (hC : CvP w1) => mulL_c g n1 b1 hr1 w1 hR hp hC)
  have hBo := Lib.hid (fun g1 g2 (X Y Z T : Fe.E) (x y : Fin Fe.P) w1 (hR1 : RowB w1 g1 (n1 + 12) (n1 + 12) (lentF n1 b1)) (hR2 : RowB w1 g2 (n2 + 12) (n2 + 12) (lentF n2 b2)) (hp : PtE X Y Z T x y) (hC : CvP w1) => bothL_c g1 n1 b1 hr1 g2 n2 b2 hr2 w1 hR1 hR2 hp hC)
  have hbs := rbase_c
  obtain ⟨bx, hbx⟩ : ∃ x, Fe.zf Fe.bX = x := ⟨_, rfl⟩
  obtain ⟨by', hby⟩ : ∃ x, Fe.zf Fe.bY = x := ⟨_, rfl⟩
  rw [hbx, hby] at hbs hBo
  replace hbs := Lib.hid hbs
  replace hBt1 := Lib.hid hBt1
  replace hBt2 := Lib.hid hBt2
  replace hCv := Lib.hid hCv
  clear hS1 hS2 hS3 hr1 hr2 hr3 hn1 hn2 hn3 hbx hby
  go_enter Tryd.func8, Tryd.ntmps8
  go_wp2_with fail
  refine (awake4_c w hCv.out).mono ?_
  rintro e w1 ⟨rfl, hb0⟩
  go_wp2_with fail
  refine (hPt.out w1 hb0).mono ?_
  rintro e w2 ⟨X, Y, Z, T, rfl, hE, hb⟩
  replace hb0 := hb0.trans (hb.mono hb0.size)
  replace hE := Lib.hid hE
  clear hb hPt
  obtain ⟨x, hx⟩ : ∃ v, ptX n3 b3 = v := ⟨_, rfl⟩
  obtain ⟨y, hy⟩ : ∃ v, ptY n3 b3 = v := ⟨_, rfl⟩
  rw [hx, hy] at hE
  clear hx hy
  have LO := hb0.size
  go_wp2_with (refine stPt rfl rfl rfl rfl (Blk.new _ _ _) rfl rfl (by kernel_rfl) ?_; intro w3 k7 hgr hsz; replace hb0 := (hb0.alloc hb0.size _).grown hgr (Nat.le_trans hb0.size (by simp)) (fun k hk => by injection hk with hk; omega); clear hgr hsz)
  obtain ⟨G7, hG7⟩ : ∃ G, G = w2.heap.size := ⟨_, rfl⟩
  rw [← hG7] at k7 ⊢
  clear hG7 LO
  refine (hL1.out w3 hb0).mono ?_
  rintro e w4 ⟨g1, rfl, _, hR1, hb⟩
  replace k7 := k7.below hb
  replace hb0 := hb0.trans (hb.mono hb0.size)
  replace hR1 := Lib.hid hR1
  clear hb hL1
  go_wp2_with fail
  refine (hL2.out w4 hb0).mono ?_
  rintro e w5 ⟨g2, rfl, _, hR2, hb⟩
  replace k7 := k7.below hb
  replace hb0 := hb0.trans (hb.mono hb0.size)
  replace hR1 := Lib.hid (hR1.out.below hb)
  replace hR2 := Lib.hid hR2
  clear hb hL2
  have hC5 := hCv.out.below hb0 hCv.out.lt
  go_wp2
  refine wp_region_grow2 9 (fun k => (Nat.ble 10 k && Nat.ble k 11) || (Nat.ble 36 k && Nat.ble k 42)) _ [] (fun j x' q => (mu7L n1 n2 b1 b2 g1 g2 x y bx by' w5.heap.size).getD j (fun _ _ => True) x' q) (fun j => j == 7 || j == 8) (fun f => #[_, _, _, _, _, _, _, .pointer (some ⟨G7, 0, none⟩), .slice (some ⟨g1, 0, none⟩) n1 (n1 + 12), .slice (some ⟨g2, 0, none⟩) n2 (n2 + 12), f 10, f 11, _, _, _, _, _, _, _, _, _, _, _, _, _, _, _, _, _, _, _, _, _, _, _, _, f 36, f 37, f 38, f 39, f 40, f 41, f 42, _, _, _, _, _, _, _, _, _, _, _, _, _, _, _, _, _, _, _, _, _, _, _, _, _, _, _, _, _, _, _, _, _, _, _, _, _, _, _, _, _, _, _, _, _, _, _, _, _]) (fun f => rfl) (by kernel_rfl) (by kernel_rfl) (by kernel_rfl) (by kernel_rfl) (by kernel_rfl) (mu7S _ _ _ _ _ _ _ _ _ _ _) (mu7O _ _ _ _ _ _ _ _ _ _ _) ?_ ?_
  · refine steps2_cons ?_ ?_
    · as_aux_lemma =>
      intro f w1 hb hd Q hK
      clear hd
      have hK := Lib.hid hK
      go_wp2
      exact hK.out _ _ rfl (.refl _ _) nof
    refine steps2_cons ?_ ?_
    · as_aux_lemma =>
      intro f w1 hb hd Q hK
      clear hd
      have hK := Lib.hid hK
      refine ldPtG (by kernel_rfl) rfl rfl (k7.below hb) ?_
      refine wpList_nil ?_
      exact hK.out _ _ ⟨_, _, _, _, rfl, hE.out⟩ (.refl _ _) nof
    refine steps2_cons ?_ ?_
    · as_aux_lemma =>
      intro f w1 hb hd Q hK
      have e36 : f 36 = .slice (some ⟨g1, 0, none⟩) n1 (n1 + 12) := hd.1 rfl
      obtain ⟨X37, Y37, Z37, T37, e37, h37⟩ := (hd.2.1 rfl : PqP x y (f 37) w1)
      clear hd
      simp only [e36, e37] at hK
      have hK := Lib.hid hK
      go_wp2_with fail
      refine (hMl.out g1 _ _ _ _ _ _ w1 (hR1.out.below hb) h37 (hC5.below hb hC5.lt)).mono ?_
      rintro e w2 ⟨X, Y, Z, T, rfl, hx, hb2⟩
      go_wp2
      exact hK.out _ _ ⟨X, Y, Z, T, rfl, hx⟩ hb2 nof
    refine steps2_cons ?_ ?_
    · as_aux_lemma =>
      intro f w1 hb hd Q hK
      clear hd
      have hK := Lib.hid hK
      go_wp2
      exact hK.out _ _ rfl (.refl _ _) nof
    refine steps2_cons ?_ ?_
    · as_aux_lemma =>
      intro f w1 hb hd Q hK
      clear hd
      have hK := Lib.hid hK
      refine ldPtG (by kernel_rfl) rfl rfl (k7.below hb) ?_
      refine wpList_nil ?_
      exact hK.out _ _ ⟨_, _, _, _, rfl, hE.out⟩ (.refl _ _) nof
    refine steps2_cons ?_ ?_
    · as_aux_lemma =>
      intro f w1 hb hd Q hK
      clear hd
      have hK := Lib.hid hK
      go_wp2
      exact hK.out _ _ rfl (.refl _ _) nof
    refine steps2_cons ?_ ?_
    · as_aux_lemma =>
      intro f w1 hb hd Q hK
      have e39 : f 39 = .slice (some ⟨g1, 0, none⟩) n1 (n1 + 12) := hd.1 rfl
      obtain ⟨X40, Y40, Z40, T40, e40, h40⟩ := (hd.2.1 rfl : PqP x y (f 40) w1)
      have e41 : f 41 = .slice (some ⟨g2, 0, none⟩) n2 (n2 + 12) := hd.2.2.1 rfl
      clear hd
      simp only [e39, e40, e41] at hK
      have hK := Lib.hid hK
      go_wp2_with fail
      refine (hBo.out g1 g2 _ _ _ _ _ _ w1 (hR1.out.below hb) (hR2.out.below hb) h40 (hC5.below hb hC5.lt)).mono ?_
      rintro e w2 ⟨X, Y, Z, T, rfl, hx, hb2⟩
      go_wp2
      exact hK.out _ _ ⟨X, Y, Z, T, rfl, hx⟩ hb2 nof
    refine steps2_cons ?_ ?_
    · as_aux_lemma =>
      intro f w1 hb hd Q hK
      clear hd
      have hK := Lib.hid hK
      have hsz := hb.size
      go_wp2
      exact hK.out _ _ ⟨_, rfl, hsz, Blk.new _ _ _⟩ ((Below.refl _ _).alloc (Nat.le_refl _) _) (fun _ => ⟨_, rfl, Nat.le_refl _⟩)
    refine steps2_cons ?_ ?_
    · as_aux_lemma =>
      intro f w1 hb hd Q hK
      clear hd
      have hK := Lib.hid hK
      have hsz := hb.size
      go_wp2
      exact hK.out _ _ ⟨_, rfl, hsz, Blk.new _ _ _⟩ ((Below.refl _ _).alloc (Nat.le_refl _) _) (fun _ => ⟨_, rfl, Nat.le_refl _⟩)
    trivial
  intro f7 w6 hb hf hne
  obtain ⟨g10, d10, lo10, bk10⟩ : NewB w5.heap.size 29 #[.int .u64 0, .int .u64 0, .int .u64 0, .int .u64 0, .int .u64 0, .int .u64 0, .int .u64 0, .int .u64 0, .int .u64 0, .int .u64 0, .int .u64 0, .int .u64 0, .int .u64 0, .int .u64 0, .int .u64 0, .int .u64 0, .int .u64 0, .int .u64 0, .int .u64 0, .int .u64 0] (f7 10) w6 := hf 7 _ _ (by decide) rfl rfl
  obtain ⟨g11, d11, lo11, bk11⟩ : NewB w5.heap.size 29 #[.int .u64 0, .int .u64 0, .int .u64 0, .int .u64 0, .int .u64 0, .int .u64 0, .int .u64 0, .int .u64 0, .int .u64 0, .int .u64 0, .int .u64 0, .int .u64 0, .int .u64 0, .int .u64 0, .int .u64 0, .int .u64 0, .int .u64 0, .int .u64 0, .int .u64 0, .int .u64 0] (f7 11) w6 := hf 8 _ _ (by decide) rfl rfl
  obtain ⟨X38, Y38, Z38, T38, d38, h38⟩ : PqP ((mulY n1 b1 x y).1) ((mulY n1 b1 x y).2) (f7 38) w6 := hf 2 _ _ (by decide) rfl rfl
  obtain ⟨X42, Y42, Z42, T42, d42, h42⟩ : PqP ((Fe.gad (mulY n1 b1 x y) (mulY n2 b2 bx by')).1) ((Fe.gad (mulY n1 b1 x y) (mulY n2 b2 bx by')).2) (f7 42) w6 := hf 6 _ _ (by decide) rfl rfl
  have n1011 : g10 ≠ g11 := by
    have := hne 7 8 _ _ _ _ (by decide) (by decide) (by decide) rfl rfl rfl rfl rfl rfl
    rw [d10, d11] at this
    exact fun h => this (by rw [h])
  clear hf hne
  have LS := hb0.size
  have n710 : G7 ≠ g10 := by have := k7.lt; omega
  have n711 : G7 ≠ g11 := by have := k7.lt; omega
  have r110 : g1 ≠ g10 := by have := hR1.out.lt; omega
  have r111 : g1 ≠ g11 := by have := hR1.out.lt; omega
  have r210 : g2 ≠ g10 := by have := hR2.out.lt; omega
  have r211 : g2 ≠ g11 := by have := hR2.out.lt; omega
  replace lo10 : w.heap.size ≤ g10 := Nat.le_trans LS lo10
  replace lo11 : w.heap.size ≤ g11 := Nat.le_trans LS lo11
  simp only [d10, d11, d38, d42]
  clear d10 d11 d38 d42 LS
  replace k7 := k7.below hb
  replace hR1 := Lib.hid (hR1.out.below hb)
  replace hR2 := Lib.hid (hR2.out.below hb)
  replace hb0 := hb0.trans (hb.mono hb0.size)
  clear hb hC5
  refine stPt rfl rfl rfl rfl bk10 rfl rfl (by kernel_rfl) ?_
  intro w7 k10 hgr hsz
  replace k7 := k7.grown hgr (fun h => n710 (by injection h))
  replace bk11 := bk11.grown hgr (fun h => n1011 (by injection h with h; exact h.symm))
  replace hR1 := Lib.hid (hR1.out.grown hgr (fun h => r110 (by injection h)))
  replace hR2 := Lib.hid (hR2.out.grown hgr (fun h => r210 (by injection h)))
  replace hb0 := hb0.grown hgr hb0.size (fun k hk => by injection hk with hk; omega)
  clear hgr hsz bk10
  refine stPt rfl rfl rfl rfl bk11 rfl rfl (by kernel_rfl) ?_
  intro w8 k11 hgr hsz
  replace k7 := k7.grown hgr (fun h => n711 (by injection h))
  replace k10 := k10.grown hgr (fun h => n1011 (by injection h))
  replace hR1 := Lib.hid (hR1.out.grown hgr (fun h => r111 (by injection h)))
  replace hR2 := Lib.hid (hR2.out.grown hgr (fun h => r211 (by injection h)))
  replace hb0 := hb0.grown hgr hb0.size (fun k hk => by injection hk with hk; omega)
  clear hgr hsz bk11 n710 n711 n1011 r110 r111 r210 r211
  replace h38 := Lib.hid h38
  replace h42 := Lib.hid h42
  refine wpList_nil ?_
  go_wp2_with fail
  refine (rzero_c _).mono ?_
  rintro e w9 ⟨A0, B0, C0, rfl, hR12, hb⟩
  replace hR12 := Lib.hid hR12
  replace k7 := k7.below hb
  replace k10 := k10.below hb
  replace k11 := k11.below hb
  replace hR1 := Lib.hid (hR1.out.below hb)
  replace hR2 := Lib.hid (hR2.out.below hb)
  replace hb0 := hb0.trans (hb.mono hb0.size)
  clear hb
  go_wp2_with fail
  refine (rzero_c _).mono ?_
  rintro e w10 ⟨A3, B3, C3, rfl, hR13, hb⟩
  replace hR13 := Lib.hid hR13
  replace k7 := k7.below hb
  replace k10 := k10.below hb
  replace k11 := k11.below hb
  replace hR1 := Lib.hid (hR1.out.below hb)
  replace hR2 := Lib.hid (hR2.out.below hb)
  replace hb0 := hb0.trans (hb.mono hb0.size)
  clear hb
  have l7 := k7.lt
  have l10 := k10.lt
  have l11 := k11.lt
  have lr1 := hR1.out.lt
  have lr2 := hR2.out.lt
  have LS := hb0.size
  go_upto_if 47 with (first | (refine stT rfl rfl rfl rfl k13 so13 ?_; intro w12 m13 hgr hsz; replace k7 := k7.grown hgr (fun h => by injection h with h; omega); replace k10 := k10.grown hgr (fun h => by injection h with h; omega); replace k11 := k11.grown hgr (fun h => by injection h with h; omega); replace k12 := k12.grown hgr (fun h => by injection h with h; omega); replace hR1 := Lib.hid (hR1.out.grown hgr (fun h => by injection h with h; omega)); replace hR2 := Lib.hid (hR2.out.grown hgr (fun h => by injection h with h; omega)); replace hb0 := hb0.grown hgr hb0.size (fun k hk => by injection hk with hk; omega); clear hgr hsz k13) | (refine stT rfl rfl rfl rfl ((Blk.new _ _ _).alloc _) rfl ?_; intro w11 k12 hgr hsz; obtain ⟨old13, k13, so13⟩ : ∃ old, Blk w11 (w10.heap.size + 1) 35 old ∧ old.size = 48 := ⟨_, Blk.grown (blk_at (g := w10.heap.size + 1) (by simp) (Blk.new _ _ _)) hgr (fun h => by injection h with h; omega), rfl⟩; replace k7 := (((k7.alloc _).alloc _)).grown hgr (fun h => by injection h with h; omega); replace k10 := (((k10.alloc _).alloc _)).grown hgr (fun h => by injection h with h; omega); replace k11 := (((k11.alloc _).alloc _)).grown hgr (fun h => by injection h with h; omega); replace hR1 := Lib.hid (((hR1.out.below ((Below.refl _ _).alloc (Nat.le_refl _) _)).below ((Below.refl _ _).alloc (Nat.le_refl _) _)).grown hgr (fun h => by injection h with h; omega)); replace hR2 := Lib.hid (((hR2.out.below ((Below.refl _ _).alloc (Nat.le_refl _) _)).below ((Below.refl _ _).alloc (Nat.le_refl _) _)).grown hgr (fun h => by injection h with h; omega)); replace hb0 := Below.grown ((hb0.alloc hb0.size _).alloc (by rw [World.size_alloc]; omega) _) hgr (by simp only [World.size_alloc]; omega) (fun k hk => by injection hk with hk; omega); clear hgr hsz))
  have n12_7 := Lib.hid (show G7 ≠ w10.heap.size by omega)
  have n12_10 := Lib.hid (show g10 ≠ w10.heap.size by omega)
  have n12_11 := Lib.hid (show g11 ≠ w10.heap.size by omega)
  have n12_1 := Lib.hid (show g1 ≠ w10.heap.size by omega)
  have n12_2 := Lib.hid (show g2 ≠ w10.heap.size by omega)
  have n13_7 := Lib.hid (show G7 ≠ w10.heap.size + 1 by omega)
  have n13_10 := Lib.hid (show g10 ≠ w10.heap.size + 1 by omega)
  have n13_11 := Lib.hid (show g11 ≠ w10.heap.size + 1 by omega)
  have n13_1 := Lib.hid (show g1 ≠ w10.heap.size + 1 by omega)
  have n13_2 := Lib.hid (show g2 ≠ w10.heap.size + 1 by omega)
  have n1213 := Lib.hid (show w10.heap.size ≠ w10.heap.size + 1 by omega)
  clear l7 l10 l11 lr1 lr2
  obtain ⟨G13, hG13⟩ : ∃ G, G = w10.heap.size + 1 := ⟨_, rfl⟩
  rw [← hG13] at m13 n13_7 n13_10 n13_11 n13_1 n13_2 n1213 ⊢
  obtain ⟨G12, hG12⟩ : ∃ G, G = w10.heap.size := ⟨_, rfl⟩
  rw [← hG12] at k12 n12_7 n12_10 n12_11 n12_1 n12_2 n1213 LS ⊢
  have lo12 : w.heap.size ≤ G12 := LS
  have lo13 : w.heap.size ≤ G13 := by omega
  clear hG12 hG13 LS
  go_cut [12] from 17 (fun p wx => p = .pointer (some ⟨G12, 0, none⟩) ∧ Blk wx G7 29 (pcs X Y Z T) ∧ Blk wx g10 29 (pcs X38 Y38 Z38 T38) ∧ Blk wx g11 29 (pcs X42 Y42 Z42 T42) ∧ RowB wx g1 (n1 + 12) (n1 + 12) (lentF n1 b1) ∧ RowB wx g2 (n2 + 12) (n2 + 12) (lentF n2 b2) ∧ (∃ A B C, Blk wx G12 35 (tcs A B C) ∧ Fe.RA A B C (mulY n1 b1 x y).1 (mulY n1 b1 x y).2) ∧ (∃ A B C, Blk wx G13 35 (tcs A B C) ∧ Fe.RA A B C 0 1) ∧ Below w.heap.size w wx)
  case first =>
    by_cases h32 : n1 = 32
    · have hi32 : (n1 : Int) = 32 := by omega
      have hBt := Lib.hid (hBt1.out h32)
      have hM := Lib.hid (show mulY n1 b1 x y = mulY 32 b1 x y by rw [h32])
      clear h32
      have hC9 := hCv.out.below hb0 hCv.out.lt
      go_wp2
      clear hi32
      obtain ⟨BQ, hBQ⟩ : ∃ v, v = ((n1 : Int) == 32) := ⟨_, rfl⟩
      rw [← hBQ]
      clear hBQ
      refine wp_region_grow2 5 (fun k => (Nat.ble 48 k && Nat.ble k 52)) _ [] (fun j x' q => (mu10L n1 b1 c1 q1 x y).getD j (fun _ _ => True) x' q) (fun _ => false) (fun f => #[.slice q1 n1 c1, .slice q2 n2 c2, .slice q3 n3 c3, undef, undef, undef, .bool false, .pointer (some ⟨G7, 0, none⟩), .slice (some ⟨g1, 0, none⟩) n1 (n1 + 12), .slice (some ⟨g2, 0, none⟩) n2 (n2 + 12), .pointer (some ⟨g10, 0, none⟩), .pointer (some ⟨g11, 0, none⟩), .pointer (some ⟨G12, 0, none⟩), .pointer (some ⟨G13, 0, none⟩), undef, .bool true, .bool false, .slice q1 n1 c1, .int .i64 (n1 : Int), .bool (decide (100 < (n1 : Int))), .bool (decide (100 < (n1 : Int))), .slice q2 n2 c2, .int .i64 (n2 : Int), .bool (decide (100 < (n2 : Int))), .bool (decide (100 < (n1 : Int)) || decide (100 < (n2 : Int))), .bool (decide (100 < (n1 : Int)) || decide (100 < (n2 : Int))), .slice q3 n3 c3, .int .i64 (n3 : Int), .bool (decide (100 < (n3 : Int))), .bool (decide (100 < (n1 : Int)) || decide (100 < (n2 : Int)) || decide (100 < (n3 : Int))), .slice q3 n3 c3, .agg (pcs X Y Z T), .slice q1 n1 c1, .slice (some ⟨g1, 0, none⟩) n1 (n1 + 12), .slice q2 n2 c2, .slice (some ⟨g2, 0, none⟩) n2 (n2 + 12), f7 36, f7 37, .agg (pcs X38 Y38 Z38 T38), f7 39, f7 40, f7 41, .agg (pcs X42 Y42 Z42 T42), .agg (tcs A0 B0 C0), .agg (tcs A3 B3 C3), .slice q1 n1 c1, .int .i64 (n1 : Int), .bool BQ, f 48, f 49, f 50, f 51, f 52, undef, undef, undef, undef, undef, undef, undef, undef, undef, undef, undef, undef, undef, undef, undef, undef, undef, undef, undef, undef, undef, undef, undef, undef, undef, undef, undef, undef, undef, undef, undef, undef, undef, undef, undef, undef, undef, undef, undef]) (fun f => rfl) (by kernel_rfl) (by kernel_rfl) (by kernel_rfl) (by kernel_rfl) (by kernel_rfl) (mu10S _ _ _ _ _ _) (fun _ _ _ h => by cases h) ?_ ?_
      · refine steps2_cons ?_ ?_
        · as_aux_lemma =>
          intro f w1 hb hd Q hK
          clear hd
          have hK := Lib.hid hK
          go_wp2
          exact hK.out _ _ rfl (.refl _ _) nof
        refine steps2_cons ?_ ?_
        · as_aux_lemma =>
          intro f w1 hb hd Q hK
          have e48 : f 48 = .slice q1 n1 c1 := hd.1 rfl
          clear hd
          simp only [e48] at hK
          have hK := Lib.hid hK
          go_wp2_with fail
          refine (hBt.out w1 (hb0.trans (hb.mono hb0.size))).mono ?_
          rintro e w2 ⟨g, c, _, rfl, _, hcs, hb2⟩
          go_wp2
          exact hK.out _ _ ⟨g, c, rfl, lt_of_bits hcs, hcs⟩ hb2 nof
        refine steps2_cons ?_ ?_
        · as_aux_lemma =>
          intro f w1 hb hd Q hK
          clear hd
          have hK := Lib.hid hK
          refine ldPtG (by kernel_rfl) rfl rfl (k7.below hb) ?_
          refine wpList_nil ?_
          exact hK.out _ _ ⟨_, _, _, _, rfl, hE.out⟩ (.refl _ _) nof
        refine steps2_cons ?_ ?_
        · as_aux_lemma =>
          intro f w1 hb hd Q hK
          obtain ⟨X50, Y50, Z50, T50, e50, h50⟩ := (hd.1 rfl : PqP x y (f 50) w1)
          clear hd
          simp only [e50] at hK
          have hK := Lib.hid hK
          go_wp2_with fail
          refine (of_c h50 _).mono ?_
          rintro e w2 ⟨X, Y, Z, rfl, hx, hb2⟩
          go_wp2
          exact hK.out _ _ ⟨X, Y, Z, rfl, hx⟩ hb2 nof
        refine steps2_cons ?_ ?_
        · as_aux_lemma =>
          intro f w1 hb hd Q hK
          obtain ⟨g49, c49, e49, l49, h49⟩ := (hd.1 rfl : BtP b1 (f 49) w1)
          obtain ⟨A51, B51, C51, e51, h51⟩ := (hd.2.1 rfl : RqP x y (f 51) w1)
          clear hd
          simp only [e49, e51] at hK
          have hK := Lib.hid hK
          go_wp2_with fail
          refine (rmulL_c g49 c49 b1 w1 l49 h49 h51).mono ?_
          rintro e w2 ⟨X, Y, Z, rfl, hx, hb2⟩
          go_wp2
          exact hK.out _ _ ⟨X, Y, Z, rfl, hx⟩ hb2 nof
        trivial
      intro f10 w13 hb hf hne
      obtain ⟨A52, B52, C52, d52, h52⟩ : RqP ((mulY 32 b1 x y).1) ((mulY 32 b1 x y).2) (f10 52) w13 := hf 4 _ _ (by decide) rfl rfl
      clear hf hne
      simp only [d52]
      clear d52
      replace k7 := k7.below hb
      replace k10 := k10.below hb
      replace k11 := k11.below hb
      replace k12 := k12.below hb
      replace m13 := m13.below hb
      replace hR1 := Lib.hid (hR1.out.below hb)
      replace hR2 := Lib.hid (hR2.out.below hb)
      replace hb0 := hb0.trans (hb.mono hb0.size)
      clear hb hC9
      refine stT rfl rfl rfl rfl k12 (tcf_size _ _ _) ?_
      intro w14 m12 hgr hsz
      replace k7 := k7.grown hgr (fun h => n12_7.out (by injection h))
      replace k10 := k10.grown hgr (fun h => n12_10.out (by injection h))
      replace k11 := k11.grown hgr (fun h => n12_11.out (by injection h))
      replace m13 := m13.grown hgr (fun h => n1213.out (by injection h with h; exact h.symm))
      replace hR1 := Lib.hid (hR1.out.grown hgr (fun h => n12_1.out (by injection h)))
      replace hR2 := Lib.hid (hR2.out.grown hgr (fun h => n12_2.out (by injection h)))
      replace hb0 := hb0.grown hgr hb0.size (fun k hk => by injection hk with hk; omega)
      clear hgr hsz k12
      replace h52 := Lib.hid h52
      refine wpList_nil ?_
      go_wp2
      go_meet
      case rel => exact ⟨rfl, k7, k10, k11, hR1.out, hR2.out, ⟨A52, B52, C52, m12, by rw [hM.out]; exact h52.out⟩, ⟨A3, B3, C3, m13, hR13.out⟩, hb0⟩
    have hi32 : ¬ (n1 : Int) = 32 := by omega
    have hM := Lib.hid (show mulY n1 b1 x y = (0, 1) by unfold mulY; rw [if_neg h32])
    clear h32
    go_wp2
    go_meet
    case rel => exact ⟨rfl, k7, k10, k11, hR1.out, hR2.out, ⟨A0, B0, C0, k12, by rw [hM.out]; exact hR12.out⟩, ⟨A3, B3, C3, m13, hR13.out⟩, hb0⟩
  case rest =>
    clear k7 k10 k11 hR1 hR2 k12 m13 hR12 hR13 hb0 hBt1
    obtain ⟨e12, k7, k10, k11, hR1', hR2', ⟨A4, B4, C4, k12, hR12'⟩, ⟨A5, B5, C5, k13, hR13'⟩, hb0⟩ := hcut
    subst e12
    have hR1 := Lib.hid hR1'
    have hR2 := Lib.hid hR2'
    have hR12 := Lib.hid hR12'
    have hR13 := Lib.hid hR13'
    clear hR1' hR2' hR12' hR13'
    obtain ⟨wq, hwq⟩ : ∃ wq, wq = wc := ⟨_, rfl⟩
    subst hwq
    go_upto_if 55 with fail
    go_cut [13] from 17 (fun p wx => p = .pointer (some ⟨G13, 0, none⟩) ∧ Blk wx G7 29 (pcs X Y Z T) ∧ Blk wx g10 29 (pcs X38 Y38 Z38 T38) ∧ Blk wx g11 29 (pcs X42 Y42 Z42 T42) ∧ RowB wx g1 (n1 + 12) (n1 + 12) (lentF n1 b1) ∧ RowB wx g2 (n2 + 12) (n2 + 12) (lentF n2 b2) ∧ (∃ A B C, Blk wx G12 35 (tcs A B C) ∧ Fe.RA A B C (mulY n1 b1 x y).1 (mulY n1 b1 x y).2) ∧ (∃ A B C, Blk wx G13 35 (tcs A B C) ∧ Fe.RA A B C (mulY n2 b2 bx by').1 (mulY n2 b2 bx by').2) ∧ Below w.heap.size w wx)
    case first =>
      by_cases h32 : n2 = 32
      · have hi32 : (n2 : Int) = 32 := by omega
        have hBt := Lib.hid (hBt2.out h32)
        have hM := Lib.hid (show mulY n2 b2 bx by' = mulY 32 b2 bx by' by rw [h32])
        clear h32
        go_wp2_with fail
        refine (hBt.out _ hb0).mono ?_
        rintro e w15 ⟨gb, cb, _, rfl, _, hcs, hb⟩
        have ltb := lt_of_bits hcs
        replace k7 := k7.below hb
        replace k10 := k10.below hb
        replace k11 := k11.below hb
        replace k12 := k12.below hb
        replace k13 := k13.below hb
        replace hR1 := Lib.hid (hR1.out.below hb)
        replace hR2 := Lib.hid (hR2.out.below hb)
        replace hb0 := hb0.trans (hb.mono hb0.size)
        clear hb hBt
        replace hcs := Lib.hid hcs
        go_wp2_with fail
        refine (hbs.out _).mono ?_
        rintro e w16 ⟨A7, B7, C7, rfl, hR7, hb⟩
        replace hcs := Lib.hid (fun k hk => (hb.cell (p := ⟨gb, k, none⟩) ltb).trans (hcs.out k hk))
        replace ltb := Nat.lt_of_lt_of_le ltb hb.size
        replace k7 := k7.below hb
        replace k10 := k10.below hb
        replace k11 := k11.below hb
        replace k12 := k12.below hb
        replace k13 := k13.below hb
        replace hR1 := Lib.hid (hR1.out.below hb)
        replace hR2 := Lib.hid (hR2.out.below hb)
        replace hb0 := hb0.trans (hb.mono hb0.size)
        replace hR7 := Lib.hid hR7
        clear hb
        go_wp2_with fail
        refine (rmulL_c gb cb b2 _ ltb hcs.out hR7.out).mono ?_
        rintro e w17 ⟨A8, B8, C8, rfl, hR8, hb⟩
        replace hR8 := Lib.hid hR8
        replace k7 := k7.below hb
        replace k10 := k10.below hb
        replace k11 := k11.below hb
        replace k12 := k12.below hb
        replace k13 := k13.below hb
        replace hR1 := Lib.hid (hR1.out.below hb)
        replace hR2 := Lib.hid (hR2.out.below hb)
        replace hb0 := hb0.trans (hb.mono hb0.size)
        clear hb hcs ltb hR7
        go_wp2_with (refine stT rfl rfl rfl rfl k13 (tcf_size _ _ _) ?_; intro w18 m13 hgr hsz; replace k7 := k7.grown hgr (fun h => n13_7.out (by injection h)); replace k10 := k10.grown hgr (fun h => n13_10.out (by injection h)); replace k11 := k11.grown hgr (fun h => n13_11.out (by injection h)); replace k12 := k12.grown hgr (fun h => n1213.out (by injection h)); replace hR1 := Lib.hid (hR1.out.grown hgr (fun h => n13_1.out (by injection h))); replace hR2 := Lib.hid (hR2.out.grown hgr (fun h => n13_2.out (by injection h))); replace hb0 := hb0.grown hgr hb0.size (fun k hk => by injection hk with hk; omega); clear hgr hsz k13)
        go_meet
        case rel => exact ⟨rfl, k7, k10, k11, hR1.out, hR2.out, ⟨A4, B4, C4, k12, hR12.out⟩, ⟨A8, B8, C8, m13, by rw [hM.out]; exact hR8.out⟩, hb0⟩
      have hi32 : ¬ (n2 : Int) = 32 := by omega
      have hM := Lib.hid (show mulY n2 b2 bx by' = (0, 1) by unfold mulY; rw [if_neg h32])
      clear h32
      go_wp2
      go_meet
      case rel => exact ⟨rfl, k7, k10, k11, hR1.out, hR2.out, ⟨A4, B4, C4, k12, hR12.out⟩, ⟨A5, B5, C5, k13, by rw [hM.out]; exact hR13.out⟩, hb0⟩
    case rest =>
      clear k7 k10 k11 hR1 hR2 k12 k13 hR12 hR13 hb0 hBt2
      obtain ⟨e13, k7, k10, k11, hR1', hR2', ⟨A6, B6, C6, k12, hR12'⟩, ⟨A7, B7, C7, k13, hR13'⟩, hb0⟩ := hcut
      subst e13
      have hR1 := Lib.hid hR1'
      have hR2 := Lib.hid hR2'
      have hR12 := Lib.hid hR12'
      have hR13 := Lib.hid hR13'
      clear hR1' hR2' hR12' hR13'
      have hC9 := hCv.out.below hb0 hCv.out.lt
      go_wp2
      refine wp_region_grow2 5 (fun k => Nat.beq k 14 || (Nat.ble 60 k && Nat.ble k 63)) _ [] (fun j x' q => (mu13L D n1 n2 b1 b2 x y bx by' wc).getD j (fun _ _ => True) x' q) (fun _ => false) (fun f => #[_, _, _, _, _, _, _, _, _, _, _, _, .pointer (some ⟨G12, 0, none⟩), .pointer (some ⟨G13, 0, none⟩), f 14, _, _, _, _, _, _, _, _, _, _, _, _, _, _, _, _, _, _, _, _, _, _, _, _, _, _, _, _, _, _, _, _, _, _, _, _, _, _, _, _, _, _, _, _, _, f 60, f 61, f 62, f 63, _, _, _, _, _, _, _, _, _, _, _, _, _, _, _, _, _, _, _, _, _, _, _, _, _, _, _, _]) (fun f => rfl) (by kernel_rfl) (by kernel_rfl) (by kernel_rfl) (by kernel_rfl) (by kernel_rfl) (mu13S _ _ _ _ _ _ _ _ _ _) (fun _ _ _ h => by cases h) ?_ ?_
      · refine steps2_cons ?_ ?_
        · as_aux_lemma =>
          intro f w1 hb hd Q hK
          clear hd
          have hK := Lib.hid hK
          go_wp2_with fail
          refine (hd.out _).mono ?_
          rintro e w2 ⟨rfl, hb2⟩
          go_wp2
          exact hK.out _ _ rfl hb2 nof
        refine steps2_cons ?_ ?_
        · as_aux_lemma =>
          intro f w1 hb hd Q hK
          clear hd
          have hK := Lib.hid hK
          refine ldTw (by kernel_rfl) rfl rfl (k12.below hb) ?_
          refine wpList_nil ?_
          exact hK.out _ _ ⟨_, _, _, rfl, hR12.out⟩ (.refl _ _) nof
        refine steps2_cons ?_ ?_
        · as_aux_lemma =>
          intro f w1 hb hd Q hK
          clear hd
          have hK := Lib.hid hK
          refine ldTw (by kernel_rfl) rfl rfl (k13.below hb) ?_
          refine wpList_nil ?_
          exact hK.out _ _ ⟨_, _, _, rfl, hR13.out⟩ (.refl _ _) nof
        refine steps2_cons ?_ ?_
        · as_aux_lemma =>
          intro f w1 hb hd Q hK
          have e60 : f 60 = .agg (av D) := hd.1 rfl
          obtain ⟨A61, B61, C61, e61, h61⟩ := (hd.2.1 rfl : RqP ((mulY n1 b1 x y).1) ((mulY n1 b1 x y).2) (f 61) w1)
          obtain ⟨A62, B62, C62, e62, h62⟩ := (hd.2.2.1 rfl : RqP ((mulY n2 b2 bx by').1) ((mulY n2 b2 bx by').2) (f 62) w1)
          clear hd
          simp only [e60, e61, e62] at hK
          have hK := Lib.hid hK
          go_wp2_with fail
          refine (hadd.out _ _ _ _ _ _ _ _ _ _ h61 h62 _).mono ?_
          rintro e w2 ⟨X, Y, Z, rfl, hx, hb2⟩
          go_wp2
          exact hK.out _ _ ⟨X, Y, Z, rfl, hx⟩ hb2 nof
        refine steps2_cons ?_ ?_
        · as_aux_lemma =>
          intro f w1 hb hd Q hK
          clear hd
          have hK := Lib.hid hK
          have hsz := hb.size
          go_wp2
          exact hK.out _ _ ⟨_, rfl, hsz, _, Blk.new _ _ _, rfl⟩ ((Below.refl _ _).alloc (Nat.le_refl _) _) nof
        trivial
      intro f13 w19 hb hf hne
      obtain ⟨g14, d14, lo14, old14, bk14, so14⟩ : NewS wc.heap.size (f13 14) w19 := hf 4 _ _ (by decide) rfl rfl
      obtain ⟨A63, B63, C63, d63, h63⟩ : RqP (Fe.ax ((mulY n1 b1 x y).1) ((mulY n1 b1 x y).2) ((mulY n2 b2 bx by').1) ((mulY n2 b2 bx by').2)) (Fe.ay ((mulY n1 b1 x y).1) ((mulY n1 b1 x y).2) ((mulY n2 b2 bx by').1) ((mulY n2 b2 bx by').2)) (f13 63) w19 := hf 3 _ _ (by decide) rfl rfl
      clear hf hne
      have z7 : G7 ≠ g14 := by have := k7.lt; omega
      have z10 : g10 ≠ g14 := by have := k10.lt; omega
      have z11 : g11 ≠ g14 := by have := k11.lt; omega
      have z12 : G12 ≠ g14 := by have := k12.lt; omega
      have z1 : g1 ≠ g14 := by have := hR1.out.lt; omega
      have z2 : g2 ≠ g14 := by have := hR2.out.lt; omega
      replace lo14 : w.heap.size ≤ g14 := Nat.le_trans hb0.size lo14
      simp only [d14, d63]
      clear d14 d63
      replace k7 := k7.below hb
      replace k10 := k10.below hb
      replace k11 := k11.below hb
      replace k12 := k12.below hb
      replace hR1 := Lib.hid (hR1.out.below hb)
      replace hR2 := Lib.hid (hR2.out.below hb)
      replace hb0 := hb0.trans (hb.mono hb0.size)
      clear hb hC9 k13
      refine stT rfl rfl rfl rfl bk14 so14 ?_
      intro w20 k14 hgr hsz
      replace k7 := k7.grown hgr (fun h => z7 (by injection h))
      replace k10 := k10.grown hgr (fun h => z10 (by injection h))
      replace k11 := k11.grown hgr (fun h => z11 (by injection h))
      replace k12 := k12.grown hgr (fun h => z12 (by injection h))
      replace hR1 := Lib.hid (hR1.out.grown hgr (fun h => z1 (by injection h)))
      replace hR2 := Lib.hid (hR2.out.grown hgr (fun h => z2 (by injection h)))
      replace hb0 := hb0.grown hgr hb0.size (fun k hk => by injection hk with hk; omega)
      clear hgr hsz bk14 z7 z10 z11 z12 z1 z2
      replace h63 := Lib.hid h63
      refine wpList_nil ?_
      have hCa := hCv.out.below hb0 hCv.out.lt
      go_wp2
      refine wp_region_grow2 29 (fun k => Nat.beq k 6 || (Nat.ble 64 k && Nat.ble k 91)) _ [] (fun j x' q => (mu14L n1 n2 b1 b2 g1 g2 c1 c2 q1 q2 x y bx by').getD j (fun _ _ => True) x' q) (fun _ => false) (fun f => #[.slice q1 n1 c1, .slice q2 n2 c2, _, _, _, _, f 6, _, .slice (some ⟨g1, 0, none⟩) n1 (n1 + 12), .slice (some ⟨g2, 0, none⟩) n2 (n2 + 12), .pointer (some ⟨g10, 0, none⟩), .pointer (some ⟨g11, 0, none⟩), .pointer (some ⟨G12, 0, none⟩), _, .pointer (some ⟨g14, 0, none⟩), _, _, _, _, _, _, _, _, _, _, _, _, _, _, _, _, _, _, _, _, _, _, _, _, _, _, _, _, _, _, _, _, _, _, _, _, _, _, _, _, _, _, _, _, _, _, _, _, _, f 64, f 65, f 66, f 67, f 68, f 69, f 70, f 71, f 72, f 73, f 74, f 75, f 76, f 77, f 78, f 79, f 80, f 81, f 82, f 83, f 84, f 85, f 86, f 87, f 88, f 89, f 90, f 91]) (fun f => rfl) (by kernel_rfl) (by kernel_rfl) (by kernel_rfl) (by kernel_rfl) (by kernel_rfl) (mu14S _ _ _ _ _ _ _ _ _ _ _ _ _ _) (fun _ _ _ h => by cases h) ?_ ?_
      · refine steps2_cons ?_ ?_
        · as_aux_lemma =>
          intro f w1 hb hd Q hK
          clear hd
          have hK := Lib.hid hK
          refine ldPtG (by kernel_rfl) rfl rfl (k10.below hb) ?_
          refine wpList_nil ?_
          exact hK.out _ _ ⟨_, _, _, _, rfl, h38.out⟩ (.refl _ _) nof
        refine steps2_cons ?_ ?_
        · as_aux_lemma =>
          intro f w1 hb hd Q hK
          obtain ⟨X64, Y64, Z64, T64, e64, h64⟩ := (hd.1 rfl : PqP ((mulY n1 b1 x y).1) ((mulY n1 b1 x y).2) (f 64) w1)
          clear hd
          simp only [e64] at hK
          have hK := Lib.hid hK
          go_wp2_with fail
          refine (pson_c _ h64 (hCa.below hb hCa.lt)).mono ?_
          rintro e w2 ⟨rfl, hb2⟩
          go_wp2
          exact hK.out _ _ rfl hb2 nof
        refine steps2_cons ?_ ?_
        · as_aux_lemma =>
          intro f w1 hb hd Q hK
          have e65 : f 65 = .bool true := hd.1 rfl
          clear hd
          simp only [e65] at hK
          have hK := Lib.hid hK
          go_wp2
          exact hK.out _ _ rfl (.refl _ _) nof
        refine steps2_cons ?_ ?_
        · as_aux_lemma =>
          intro f w1 hb hd Q hK
          have e66 : f 66 = .bool true := hd.1 rfl
          clear hd
          simp only [e66] at hK
          have hK := Lib.hid hK
          refine ldPtG (by simp only [e66]; kernel_rfl) rfl rfl (k11.below hb) ?_
          refine wpList_nil ?_
          simp only [e66]
          exact hK.out _ _ ⟨_, _, _, _, rfl, h42.out⟩ (.refl _ _) nof
        refine steps2_cons ?_ ?_
        · as_aux_lemma =>
          intro f w1 hb hd Q hK
          obtain ⟨X67, Y67, Z67, T67, e67, h67⟩ := (hd.1 rfl : PqP ((Fe.gad (mulY n1 b1 x y) (mulY n2 b2 bx by')).1) ((Fe.gad (mulY n1 b1 x y) (mulY n2 b2 bx by')).2) (f 67) w1)
          have e66 : f 66 = .bool true := hd.2.1 rfl
          clear hd
          simp only [e67, e66] at hK
          have hK := Lib.hid hK
          go_wp2_with fail
          refine (pson_c _ h67 (hCa.below hb hCa.lt)).mono ?_
          rintro e w2 ⟨rfl, hb2⟩
          go_wp2
          exact hK.out _ _ rfl hb2 nof
        refine steps2_cons ?_ ?_
        · as_aux_lemma =>
          intro f w1 hb hd Q hK
          have e66 : f 66 = .bool true := hd.1 rfl
          have e68 : f 68 = .bool true := hd.2.1 rfl
          clear hd
          simp only [e66, e68] at hK
          have hK := Lib.hid hK
          go_wp2
          exact hK.out _ _ rfl (.refl _ _) nof
        refine steps2_cons ?_ ?_
        · as_aux_lemma =>
          intro f w1 hb hd Q hK
          have e69 : f 69 = .bool true := hd.1 rfl
          clear hd
          simp only [e69] at hK
          have hK := Lib.hid hK
          go_wp2
          exact hK.out _ _ rfl (.refl _ _) nof
        refine steps2_cons ?_ ?_
        · as_aux_lemma =>
          intro f w1 hb hd Q hK
          have e70 : f 70 = .bool true := hd.1 rfl
          clear hd
          simp only [e70] at hK
          have hK := Lib.hid hK
          refine ldPtG (by simp only [e70]; kernel_rfl) rfl rfl (k10.below hb) ?_
          refine wpList_nil ?_
          simp only [e70]
          exact hK.out _ _ ⟨_, _, _, _, rfl, h38.out⟩ (.refl _ _) nof
        refine steps2_cons ?_ ?_
        · as_aux_lemma =>
          intro f w1 hb hd Q hK
          obtain ⟨X71, Y71, Z71, T71, e71, h71⟩ := (hd.1 rfl : PqP ((mulY n1 b1 x y).1) ((mulY n1 b1 x y).2) (f 71) w1)
          have e70 : f 70 = .bool true := hd.2.1 rfl
          clear hd
          simp only [e71, e70] at hK
          have hK := Lib.hid hK
          go_wp2_with fail
          refine (of_c h71 _).mono ?_
          rintro e w2 ⟨X, Y, Z, rfl, hx, hb2⟩
          go_wp2
          exact hK.out _ _ ⟨X, Y, Z, rfl, hx⟩ hb2 nof
        refine steps2_cons ?_ ?_
        · as_aux_lemma =>
          intro f w1 hb hd Q hK
          have e70 : f 70 = .bool true := hd.1 rfl
          clear hd
          simp only [e70] at hK
          have hK := Lib.hid hK
          refine ldTw (by simp only [e70]; kernel_rfl) rfl rfl (k12.below hb) ?_
          refine wpList_nil ?_
          simp only [e70]
          exact hK.out _ _ ⟨_, _, _, rfl, hR12.out⟩ (.refl _ _) nof
        refine steps2_cons ?_ ?_
        · as_aux_lemma =>
          intro f w1 hb hd Q hK
          obtain ⟨A72, B72, C72, e72, h72⟩ := (hd.1 rfl : RqP ((mulY n1 b1 x y).1) ((mulY n1 b1 x y).2) (f 72) w1)
          obtain ⟨A73, B73, C73, e73, h73⟩ := (hd.2.1 rfl : RqP ((mulY n1 b1 x y).1) ((mulY n1 b1 x y).2) (f 73) w1)
          have e70 : f 70 = .bool true := hd.2.2.2.1 rfl
          clear hd
          simp only [e72, e73, e70] at hK
          have hK := Lib.hid hK
          go_wp2_with fail
          refine (rsameV h72 h73 (same_reflG _ _) _).mono ?_
          rintro e w2 ⟨rfl, hb2⟩
          go_wp2
          exact hK.out _ _ rfl hb2 nof
        refine steps2_cons ?_ ?_
        · as_aux_lemma =>
          intro f w1 hb hd Q hK
          have e70 : f 70 = .bool true := hd.1 rfl
          have e74 : f 74 = .bool true := hd.2.1 rfl
          clear hd
          simp only [e70, e74] at hK
          have hK := Lib.hid hK
          go_wp2
          exact hK.out _ _ rfl (.refl _ _) nof
        refine steps2_cons ?_ ?_
        · as_aux_lemma =>
          intro f w1 hb hd Q hK
          have e75 : f 75 = .bool true := hd.1 rfl
          clear hd
          simp only [e75] at hK
          have hK := Lib.hid hK
          go_wp2
          exact hK.out _ _ rfl (.refl _ _) nof
        refine steps2_cons ?_ ?_
        · as_aux_lemma =>
          intro f w1 hb hd Q hK
          have e76 : f 76 = .bool true := hd.1 rfl
          clear hd
          simp only [e76] at hK
          have hK := Lib.hid hK
          refine ldPtG (by simp only [e76]; kernel_rfl) rfl rfl (k11.below hb) ?_
          refine wpList_nil ?_
          simp only [e76]
          exact hK.out _ _ ⟨_, _, _, _, rfl, h42.out⟩ (.refl _ _) nof
        refine steps2_cons ?_ ?_
        · as_aux_lemma =>
          intro f w1 hb hd Q hK
          obtain ⟨X77, Y77, Z77, T77, e77, h77⟩ := (hd.1 rfl : PqP ((Fe.gad (mulY n1 b1 x y) (mulY n2 b2 bx by')).1) ((Fe.gad (mulY n1 b1 x y) (mulY n2 b2 bx by')).2) (f 77) w1)
          have e76 : f 76 = .bool true := hd.2.1 rfl
          clear hd
          simp only [e77, e76] at hK
          have hK := Lib.hid hK
          go_wp2_with fail
          refine (of_c h77 _).mono ?_
          rintro e w2 ⟨X, Y, Z, rfl, hx, hb2⟩
          go_wp2
          exact hK.out _ _ ⟨X, Y, Z, rfl, hx⟩ hb2 nof
        refine steps2_cons ?_ ?_
        · as_aux_lemma =>
          intro f w1 hb hd Q hK
          have e76 : f 76 = .bool true := hd.1 rfl
          clear hd
          simp only [e76] at hK
          have hK := Lib.hid hK
          refine ldTw (by simp only [e76]; kernel_rfl) rfl rfl (k14.below hb) ?_
          refine wpList_nil ?_
          simp only [e76]
          exact hK.out _ _ ⟨_, _, _, rfl, h63.out⟩ (.refl _ _) nof
        refine steps2_cons ?_ ?_
        · as_aux_lemma =>
          intro f w1 hb hd Q hK
          obtain ⟨A78, B78, C78, e78, h78⟩ := (hd.1 rfl : RqP ((Fe.gad (mulY n1 b1 x y) (mulY n2 b2 bx by')).1) ((Fe.gad (mulY n1 b1 x y) (mulY n2 b2 bx by')).2) (f 78) w1)
          obtain ⟨A79, B79, C79, e79, h79⟩ := (hd.2.1 rfl : RqP (Fe.ax ((mulY n1 b1 x y).1) ((mulY n1 b1 x y).2) ((mulY n2 b2 bx by').1) ((mulY n2 b2 bx by').2)) (Fe.ay ((mulY n1 b1 x y).1) ((mulY n1 b1 x y).2) ((mulY n2 b2 bx by').1) ((mulY n2 b2 bx by').2)) (f 79) w1)
          have e76 : f 76 = .bool true := hd.2.2.2.1 rfl
          clear hd
          simp only [e78, e79, e76] at hK
          have hK := Lib.hid hK
          go_wp2_with fail
          refine (rsameV h78 h79 (same_reflG _ _) _).mono ?_
          rintro e w2 ⟨rfl, hb2⟩
          go_wp2
          exact hK.out _ _ rfl hb2 nof
        refine steps2_cons ?_ ?_
        · as_aux_lemma =>
          intro f w1 hb hd Q hK
          have e76 : f 76 = .bool true := hd.1 rfl
          have e80 : f 80 = .bool true := hd.2.1 rfl
          clear hd
          simp only [e76, e80] at hK
          have hK := Lib.hid hK
          go_wp2
          exact hK.out _ _ rfl (.refl _ _) nof
        refine steps2_cons ?_ ?_
        · as_aux_lemma =>
          intro f w1 hb hd Q hK
          have e81 : f 81 = .bool true := hd.1 rfl
          clear hd
          simp only [e81] at hK
          have hK := Lib.hid hK
          go_wp2
          exact hK.out _ _ rfl (.refl _ _) nof
        refine steps2_cons ?_ ?_
        · as_aux_lemma =>
          intro f w1 hb hd Q hK
          have e82 : f 82 = .bool true := hd.1 rfl
          clear hd
          simp only [e82] at hK
          have hK := Lib.hid hK
          go_wp2
          exact hK.out _ _ rfl (.refl _ _) nof
        refine steps2_cons ?_ ?_
        · as_aux_lemma =>
          intro f w1 hb hd Q hK
          have e82 : f 82 = .bool true := hd.1 rfl
          clear hd
          simp only [e82] at hK
          have hK := Lib.hid hK
          go_wp2
          exact hK.out _ _ rfl (.refl _ _) nof
        refine steps2_cons ?_ ?_
        · as_aux_lemma =>
          intro f w1 hb hd Q hK
          have e83 : f 83 = .slice (some ⟨g1, 0, none⟩) n1 (n1 + 12) := hd.1 rfl
          have e84 : f 84 = .slice q1 n1 c1 := hd.2.1 rfl
          have e82 : f 82 = .bool true := hd.2.2.1 rfl
          clear hd
          simp only [e83, e84, e82] at hK
          have hK := Lib.hid hK
          go_wp2_with fail
          refine (hK1.out w1 g1 (hb0.trans (hb.mono hb0.size)) (hR1.out.below hb)).mono ?_
          rintro e w2 ⟨rfl, hb2⟩
          go_wp2
          exact hK.out _ _ rfl hb2 nof
        refine steps2_cons ?_ ?_
        · as_aux_lemma =>
          intro f w1 hb hd Q hK
          have e82 : f 82 = .bool true := hd.1 rfl
          have e85 : f 85 = .bool true := hd.2.1 rfl
          clear hd
          simp only [e82, e85] at hK
          have hK := Lib.hid hK
          go_wp2
          exact hK.out _ _ rfl (.refl _ _) nof
        refine steps2_cons ?_ ?_
        · as_aux_lemma =>
          intro f w1 hb hd Q hK
          have e86 : f 86 = .bool true := hd.1 rfl
          clear hd
          simp only [e86] at hK
          have hK := Lib.hid hK
          go_wp2
          exact hK.out _ _ rfl (.refl _ _) nof
        refine steps2_cons ?_ ?_
        · as_aux_lemma =>
          intro f w1 hb hd Q hK
          have e87 : f 87 = .bool true := hd.1 rfl
          clear hd
          simp only [e87] at hK
          have hK := Lib.hid hK
          go_wp2
          exact hK.out _ _ rfl (.refl _ _) nof
        refine steps2_cons ?_ ?_
        · as_aux_lemma =>
          intro f w1 hb hd Q hK
          have e87 : f 87 = .bool true := hd.1 rfl
          clear hd
          simp only [e87] at hK
          have hK := Lib.hid hK
          go_wp2
          exact hK.out _ _ rfl (.refl _ _) nof
        refine steps2_cons ?_ ?_
        · as_aux_lemma =>
          intro f w1 hb hd Q hK
          have e88 : f 88 = .slice (some ⟨g2, 0, none⟩) n2 (n2 + 12) := hd.1 rfl
          have e89 : f 89 = .slice q2 n2 c2 := hd.2.1 rfl
          have e87 : f 87 = .bool true := hd.2.2.1 rfl
          clear hd
          simp only [e88, e89, e87] at hK
          have hK := Lib.hid hK
          go_wp2_with fail
          refine (hK2.out w1 g2 (hb0.trans (hb.mono hb0.size)) (hR2.out.below hb)).mono ?_
          rintro e w2 ⟨rfl, hb2⟩
          go_wp2
          exact hK.out _ _ rfl hb2 nof
        refine steps2_cons ?_ ?_
        · as_aux_lemma =>
          intro f w1 hb hd Q hK
          have e87 : f 87 = .bool true := hd.1 rfl
          have e90 : f 90 = .bool true := hd.2.1 rfl
          clear hd
          simp only [e87, e90] at hK
          have hK := Lib.hid hK
          go_wp2
          exact hK.out _ _ rfl (.refl _ _) nof
        refine steps2_cons ?_ ?_
        · as_aux_lemma =>
          intro f w1 hb hd Q hK
          have e91 : f 91 = .bool true := hd.1 rfl
          clear hd
          simp only [e91] at hK
          have hK := Lib.hid hK
          go_wp2
          exact hK.out _ _ rfl (.refl _ _) nof
        trivial
      intro f14 w21 hb hf hne
      refine wpList_nil ?_
      have d6 : f14 6 = .bool true := hf 28 _ _ (by decide) rfl rfl
      clear hf hne
      simp only [d6]
      have hP := Lib.hid (hb0.trans (hb.mono hb0.size))
      clear d6 hCa hb hb0 k7 k10 k11 k12 k14 hR1 hR2
      go_wp2
      go_returns
      exact ⟨rfl, hP.out⟩
end Go.Proofs.YtpaldgajkhmhbaaDoor
