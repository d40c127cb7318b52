/- wire: must. wire: the deferred closures. wire: take, number. wire: number; what a good reader reads of it. wire: Good, tried of a number, Number. root: must, the deferred closures. wire: Number, a reader's Number. root: tried, over the contract of the closure that it calls. root: tried of a root: the deferred closure. root: tried of a root, over the contract of the closure that it calls. root: shape, numbers. -/
import Derived.Test.YtgjffaoggjlamaaGreatDoorProg
import Derived.WalkKit
import Derived.Below
import Derived.WalkSpells
import Derived.WalkLawsBesides
import Derived.RegionTactic
import Derived.Handy
import Derived.Lib.Hide
import Derived.KernelRfl
import Derived.Defers
import Derived.Recover
import Derived.Test.YtgjffaoggjlamaaGreatDoorCe
namespace Go.Proofs.YtgjffaoggjlamaaGreatDoor
open Go Go.RowKit
theorem wmust_t (w : World) : Calls Tryz.prog 203 #[.bool true] w fun e w' => e = .returned (.tuple #[]) ∧ w = w' := by
  go_enter Tryz.func203, Tryz.ntmps203
  go_wp2
  go_returns
  exact ⟨rfl, rfl⟩
/-- what wire panics with -/
def missP : List PanicEntry := [{ v := .iface 229 (.agg #[]), recovered := false }]
theorem wmust_f (w : World) : Calls Tryz.prog 203 #[.bool false] w fun e w' => e = .panicked missP ∧ w = w' := by
  go_enter Tryz.func203, Tryz.ntmps203
  go_wp2
  exact ⟨rfl, ⟨rfl, rfl⟩⟩
end Go.Proofs.YtgjffaoggjlamaaGreatDoor

namespace Go.Proofs.YtgjffaoggjlamaaGreatDoor
open Go Go.RowKit
set_option maxRecDepth 20000 in
set_option maxHeartbeats 1000000 in
theorem wtc_int_idle (p q : Addr) (w : World) :
    CallsD Tryz.prog 194 #[.pointer (some p), .pointer (some q)] .returning w fun e u' w' => e = .returned (.tuple #[]) ∧ u' = .returning ∧ w' = w := by
  have hnn : ∀ w : World, (binOp .neq 20 .nilIface .nilIface).run Tryz.prog w = .ok (.bool false) w := fun _ => by kernel_rfl
  have hnm : ∀ w : World, (binOp .neq 20 (.iface 229 (.agg #[])) .nilIface).run Tryz.prog w = .ok (.bool true) w := fun _ => by kernel_rfl
  have hta : ∀ w : World, (Instr.typeAssert (.iface 229 (.agg #[])) 20 229 true).run Tryz.prog w = .ok (.tuple #[.agg #[], .bool true]) w := fun _ => by kernel_rfl
  refine callsD_of_wpS Tryz.func194 rfl fun c₀ cs hu => ?_
  apply wpS_seq
  apply wpS_region
  simp [wpOpsS, go_sem, recoverD, hu, Tryz.ntmps194, Exit.thenS]
  refine wpS_of_wp ?_
  rw [show (#[.pointer (some p), .pointer (some q)] ++ ((Array.replicate 19 undef).setIfInBounds 4 .nilIface).setIfInBounds 0 .nilIface) = #[.pointer (some p), .pointer (some q), .nilIface, undef, undef, undef, .nilIface, undef, undef, undef, undef, undef, undef, undef, undef, undef, undef, undef, undef, undef, undef] by kernel_rfl]
  go_wp2_with fail
  cases c₀
  simp_all [bodyPostS, results, Tryz.results194]
set_option maxRecDepth 20000 in
set_option maxHeartbeats 1000000 in
theorem wtc_int_miss (gp gq gR : Nat) (b : Bool) (x : Int) (older : List PanicEntry) (w : World) (hp : w.cell? ⟨gp, 0, none⟩ = some (.pointer (some ⟨gR, 0, none⟩))) (hb : w.cell? ⟨gR, 2, none⟩ = some (.bool b)) (hbz : w.frozen? ⟨gR, 2, none⟩ = false) (hq : w.cell? ⟨gq, 0, none⟩ = some (.int .i64 x)) (hqz : w.frozen? ⟨gq, 0, none⟩ = false) (hpl : gp < w.heap.size) (hql : gq < w.heap.size) (hRl : gR < w.heap.size) :
    CallsD Tryz.prog 194 #[.pointer (some ⟨gp, 0, none⟩), .pointer (some ⟨gq, 0, none⟩)] (.panicking ({ v := .iface 229 (.agg #[]), recovered := false } :: older)) w fun e u' w' =>
      e = .returned (.tuple #[]) ∧ u' = .panicking ({ v := .iface 229 (.agg #[]), recovered := true } :: older) ∧ w' = ((w.setCell ⟨gR, 2, none⟩ (.bool true)).setCell ⟨gq, 0, none⟩ (.int .i64 0)).alloc (.cells #[] 229) := by
  have hnn : ∀ w : World, (binOp .neq 20 .nilIface .nilIface).run Tryz.prog w = .ok (.bool false) w := fun _ => by kernel_rfl
  have hnm : ∀ w : World, (binOp .neq 20 (.iface 229 (.agg #[])) .nilIface).run Tryz.prog w = .ok (.bool true) w := fun _ => by kernel_rfl
  have hta : ∀ w : World, (Instr.typeAssert (.iface 229 (.agg #[])) 20 229 true).run Tryz.prog w = .ok (.tuple #[.agg #[], .bool true]) w := fun _ => by kernel_rfl
  refine callsD_of_wpS Tryz.func194 rfl fun c₀ cs hu => ?_
  apply wpS_seq
  apply wpS_region
  simp [wpOpsS, go_sem, recoverD, hu, Tryz.ntmps194, Exit.thenS]
  refine wpS_of_wp ?_
  rw [show (#[.pointer (some ⟨gp, 0, none⟩), .pointer (some ⟨gq, 0, none⟩)] ++ ((Array.replicate 19 undef).setIfInBounds 4 (.iface 229 (.agg #[]))).setIfInBounds 0 (.iface 229 (.agg #[]))) = #[.pointer (some ⟨gp, 0, none⟩), .pointer (some ⟨gq, 0, none⟩), (.iface 229 (.agg #[])), undef, undef, undef, (.iface 229 (.agg #[])), undef, undef, undef, undef, undef, undef, undef, undef, undef, undef, undef, undef, undef, undef] by kernel_rfl]
  go_wp2
  simp [bodyPostS, results, Tryz.results194]
end Go.Proofs.YtgjffaoggjlamaaGreatDoor

namespace Go.Proofs.YtgjffaoggjlamaaGreatDoor
open Go Go.RowKit
/-- eight bytes as a number, the highest first -/
def wv (b : Nat → Int) : Nat → Int
  | 0 => 0
  | k + 1 => bits .or .u64 (IntKind.u64.wrap (wv b k * 256)) (b k)
def intv (b : Nat → Int) : Int := wrap64 (wv b 8)
/-- a reader's cells -/
def rdC (p : Option Addr) (n c : Nat) (bad : Bool) : Array Value := #[.slice p n c, .bool true, .bool bad]
set_option maxRecDepth 20000 in
set_option maxHeartbeats 1000000 in
theorem take_c (gR : Nat) (p : Option Addr) (n c m : Nat) (bad : Bool) (hm : m ≤ n) (hn : n ≤ c) (w : World) (hR : Blk w gR 183 (rdC p n c bad)) : Calls Tryz.prog 154 #[.pointer (some ⟨gR, 0, none⟩), .int .i64 m] w fun e w' => e = .returned (.slice p m c) ∧ w' = w.setCell ⟨gR, 0, none⟩ (.slice (cutP p c m) (n - m) (c - m)) := by
  have h0 : (0 : Int) ≤ (m : Int) := by omega
  have h1 : (m : Int) ≤ (n : Int) := by omega
  have hs1 := run_slHi p n c m (by omega)
  have hs2 := run_slLo p n c m hm
  have c0 := hR.cell 0
  have f0 := hR.frozen 0
  simp only [rdC, List.getElem?_toArray, List.getElem?_cons_zero] at c0
  have hmt := Lib.hid wmust_t
  clear hR
  go_enter Tryz.func154, Tryz.ntmps154
  go_wp2_with fail
  refine (hmt.out w).mono ?_
  rintro e w1 ⟨rfl, rfl⟩
  go_wp2_with fail
  go_returns
  exact ⟨rfl, rfl⟩
theorem take_x (gR : Nat) (p : Option Addr) (n c m : Nat) (bad : Bool) (hm : n < m) (w : World) (hR : Blk w gR 183 (rdC p n c bad)) : Calls Tryz.prog 154 #[.pointer (some ⟨gR, 0, none⟩), .int .i64 m] w fun e w' => e = .panicked missP ∧ w = w' := by
  have h0 : (0 : Int) ≤ (m : Int) := by omega
  have h1 : ¬ (m : Int) ≤ (n : Int) := by omega
  have c0 := hR.cell 0
  simp only [rdC, List.getElem?_toArray, List.getElem?_cons_zero] at c0
  have hmt := Lib.hid wmust_f
  clear hR
  go_enter Tryz.func154, Tryz.ntmps154
  go_wp2_with fail
  refine (hmt.out w).mono ?_
  rintro e w1 ⟨rfl, rfl⟩
  go_wp2_with fail
  exact ⟨rfl, rfl, rfl⟩
end Go.Proofs.YtgjffaoggjlamaaGreatDoor

namespace Go.Proofs.YtgjffaoggjlamaaGreatDoor
open Go Go.RowKit
/-- a reader of which n bytes b are left -/
def Rd (B : Nat) (w : World) (gR n : Nat) (b : Nat → Int) (bad : Bool) : Prop := ∃ p c, Blk w gR 183 (rdC p n c bad) ∧ B ≤ w.heap.size ∧ n ≤ c ∧ (0 < n → ∃ g o, p = some ⟨g, o, none⟩ ∧ g < B ∧ g ≠ gR ∧ ∀ j, j < n → w.cell? ⟨g, o + j, none⟩ = some (.int .u8 (b j)))
theorem Rd.grown {B : Nat} {w w' : World} {gR n : Nat} {b : Nat → Int} {bad : Bool} (h : Rd B w gR n b bad) {x : Nat} (hb : w.grownBy w' (some x)) (h1 : gR ≠ x) (h2 : B ≤ x) : Rd B w' gR n b bad := by
  obtain ⟨p, c, k1, k0, k2, k3⟩ := h
  refine ⟨p, c, k1.grown hb (fun e => h1 (Option.some.inj e)), Nat.le_trans k0 hb.size, k2, fun h0 => ?_⟩
  obtain ⟨g, o, e, hg, hne, hc⟩ := k3 h0
  exact ⟨g, o, e, hg, hne, fun j hj => (World.cell?_of_block (hb.block g (by omega) (fun e => by have := Option.some.inj e; omega))).trans (hc j hj)⟩
theorem Rd.below {B : Nat} {w w' : World} {gR n : Nat} {b : Nat → Int} {bad : Bool} (h : Rd B w gR n b bad) (hb : Below w.heap.size w w') : Rd B w' gR n b bad := by
  obtain ⟨p, c, h1, h4, h2, h3⟩ := h
  refine ⟨p, c, h1.below hb, Nat.le_trans h4 hb.size, h2, fun h0 => ?_⟩
  obtain ⟨g, o, e, hg, hne, hc⟩ := h3 h0
  exact ⟨g, o, e, hg, hne, fun j hj => (hb.cell (p := ⟨g, o + j, none⟩) (Nat.lt_of_lt_of_le hg h4)).trans (hc j hj)⟩
theorem Rd.lt {B : Nat} {w : World} {gR n : Nat} {b : Nat → Int} {bad : Bool} (h : Rd B w gR n b bad) : gR < w.heap.size := by
  obtain ⟨p, c, h1, _⟩ := h
  exact h1.lt
theorem wgrown_set (w : World) (b i : Nat) (v : Value) : w.grownBy (w.setCell ⟨b, i, none⟩ v) (some b) :=
  ⟨rfl, rfl, rfl, by simp [World.setCell], fun k _ hk => Below.heap_setCell _ _ _ _ (fun e => hk (by simp [e]))⟩
/-- take, of a reader -/
theorem takeR_c (B gR n m : Nat) (b : Nat → Int) (bad : Bool) (hm : m ≤ n) (w : World) (hR : Rd B w gR n b bad) : Calls Tryz.prog 154 #[.pointer (some ⟨gR, 0, none⟩), .int .i64 m] w fun e w' => (∃ p c, e = .returned (.slice p m c) ∧ m ≤ c ∧ (0 < m → ∃ g o, p = some ⟨g, o, none⟩ ∧ g < w'.heap.size ∧ g ≠ gR ∧ ∀ j, j < m → w'.cell? ⟨g, o + j, none⟩ = some (.int .u8 (b j)))) ∧ Rd B w' gR (n - m) (fun j => b (m + j)) bad ∧ w.grownBy w' (some gR) := by
  obtain ⟨p, c, hB, hBw, hnc, hc⟩ := hR
  refine (take_c gR p n c m bad hm hnc w hB).mono ?_
  rintro e w' ⟨rfl, rfl⟩
  have hgr := wgrown_set w gR 0 (.slice (cutP p c m) (n - m) (c - m))
  have key : ∀ g o, p = some ⟨g, o, none⟩ → g < w.heap.size → g ≠ gR → ∀ j, (w.setCell ⟨gR, 0, none⟩ (.slice (cutP p c m) (n - m) (c - m))).cell? ⟨g, o + j, none⟩ = w.cell? ⟨g, o + j, none⟩ := fun g o _ hg hne j => World.cell?_of_block (hgr.block g hg (fun e => hne (Option.some.inj e)))
  have hmc : m ≤ c := Nat.le_trans hm hnc
  refine ⟨⟨p, c, rfl, hmc, fun h0 => ?_⟩, ⟨cutP p c m, c - m, ?_, Nat.le_trans hBw hgr.size, Nat.sub_le_sub_right hnc m, fun h0 => ?_⟩, hgr⟩
  · have hn0 : 0 < n := by omega
    obtain ⟨g, o, rfl, hg, hne, hcell⟩ := hc hn0
    exact ⟨g, o, rfl, Nat.lt_of_lt_of_le hg (Nat.le_trans hBw hgr.size), hne, fun j hj => (key g o rfl (Nat.lt_of_lt_of_le hg hBw) hne j).trans (hcell j (by omega))⟩
  · have h2 := hB.set_ 0 (.slice (cutP p c m) (n - m) (c - m))
    exact h2
  · have hn0 : 0 < n := Nat.lt_of_lt_of_le h0 (Nat.sub_le n m)
    obtain ⟨g, o, rfl, hg, hne, hcell⟩ := hc hn0
    have e : cutP (some ⟨g, o, none⟩) c m = some ⟨g, o + m, none⟩ := by
      unfold cutP
      rw [if_neg (fun hcm => absurd h0 (by rw [Nat.sub_eq_zero_of_le (hcm ▸ hnc)]; exact Nat.lt_irrefl 0)), Option.map_some, add_o]
    refine ⟨g, o + m, e, hg, hne, fun j hj => ?_⟩
    rw [Nat.add_assoc]
    exact (key g o rfl (Nat.lt_of_lt_of_le hg hBw) hne (m + j)).trans (hcell (m + j) (Nat.add_lt_of_lt_sub' hj))
theorem wrap64_of {x : Int} (h : 0 ≤ x ∧ x < 256) : IntKind.u64.wrap x = x := by simp [IntKind.wrap, IntKind.bits, IntKind.signed]; omega
set_option maxRecDepth 20000 in
set_option maxHeartbeats 1000000 in
/-- number, of a reader that has eight bytes -/
theorem numberR_c (B gR n : Nat) (b : Nat → Int) (bad : Bool) (hm : 8 ≤ n) (hb : ∀ j, 0 ≤ b j ∧ b j < 256) (w : World) (hR : Rd B w gR n b bad) : Calls Tryz.prog 139 #[.pointer (some ⟨gR, 0, none⟩)] w fun e w' => e = .returned (.int .i64 (intv b)) ∧ Rd B w' gR (n - 8) (fun j => b (8 + j)) bad ∧ w.grownBy w' (some gR) := by
  have ht := Lib.hid (takeR_c B gR n 8 b bad hm w hR)
  replace hb := Lib.hid hb
  clear hR
  go_enter Tryz.func139, Tryz.ntmps139
  go_wp2_with fail
  refine ht.out.mono ?_
  rintro e w1 ⟨⟨p, c, rfl, h8, hc⟩, hR1, hgr⟩
  obtain ⟨g, o, rfl, hg, hne, hcell⟩ := hc (by decide)
  clear ht hc
  replace hR1 := Lib.hid hR1
  replace hgr := Lib.hid hgr
  go_wp2_with fail
  go_loopw [3, 5, 9] (fun v3 _ v9 wr => ∃ k : Nat, k ≤ 8 ∧ v9 = .int .i64 k ∧ v3 = .int .u64 (wv b k) ∧ wr = w1) (fun _ _ i _ => (8 - intOf i).toNat)
  case atStart => exact ⟨0, by omega, rfl, rfl, rfl⟩
  case round =>
    obtain ⟨k, hk, hi, hv, hw⟩ := hrel
    subst hi hv hw
    by_cases he : k = 8
    · subst he
      go_wp2
      go_returns
      exact ⟨rfl, hR1.out, hgr.out⟩
    · have hk0 : (0 : Int) ≤ (k : Int) := by omega
      have hk1 : (k : Int) < 8 := by omega
      have ck := hcell k (by omega)
      have hwr := wrap64_of (hb.out k)
      have hkk : k + 1 ≤ 8 := by omega
      obtain ⟨x, hx⟩ : ∃ x, x = bits .or .u64 (IntKind.u64.wrap (wv b k * 256)) (b k) := ⟨_, rfl⟩
      clear hk he hcell
      go_wp2
      exact ⟨⟨k + 1, hkk, by simp, by first | rfl | trivial | simp, by first | rfl | trivial | simp⟩, by simp [intOf]; omega⟩
end Go.Proofs.YtgjffaoggjlamaaGreatDoor

namespace Go.Proofs.YtgjffaoggjlamaaGreatDoor
open Go Go.RowKit
set_option maxRecDepth 20000 in
set_option maxHeartbeats 1000000 in
theorem good_c (gR : Nat) (p : Option Addr) (n c : Nat) (bad : Bool) (w : World) (hR : Blk w gR 183 (rdC p n c bad)) : Calls Tryz.prog 156 #[.pointer (some ⟨gR, 0, none⟩)] w fun e w' => e = .returned (.bool (!bad)) ∧ w = w' := by
  have c1 := hR.cell 1
  have c2 := hR.cell 2
  simp only [rdC, List.getElem?_toArray, List.getElem?_cons_zero, List.getElem?_cons_succ] at c1 c2
  clear hR
  go_enter Tryz.func156, Tryz.ntmps156
  go_wp2
  go_returns
  exact ⟨rfl, rfl⟩
theorem Rd.good {B : Nat} {w : World} {gR n : Nat} {b : Nat → Int} {bad : Bool} (h : Rd B w gR n b bad) : Calls Tryz.prog 156 #[.pointer (some ⟨gR, 0, none⟩)] w fun e w' => e = .returned (.bool (!bad)) ∧ w = w' := by
  obtain ⟨p, c, h1, _⟩ := h
  exact good_c gR p n c bad w h1
set_option maxRecDepth 20000 in
set_option maxHeartbeats 1000000 in
theorem triedN_c (B gR n : Nat) (b : Nat → Int) (hm : 8 ≤ n) (hb : ∀ j, 0 ≤ b j ∧ b j < 256) (w : World) (hR : Rd B w gR n b false) : Calls Tryz.prog 138 #[.pointer (some ⟨gR, 0, none⟩), .func (.func 139) #[.pointer (some ⟨gR, 0, none⟩)] #[]] w fun e w' => e = .returned (.int .i64 (intv b)) ∧ Rd B w' gR (n - 8) (fun j => b (8 + j)) false ∧ w.grownBy w' (some gR) := by
  have hmf : ∀ (fn : Fn) (first cap : Array Value) (w : World), (Instr.makeFunc fn first cap).run Tryz.prog w = .ok (.func fn first cap) w := fun _ _ _ _ => rfl
  have hg := Lib.hid (fun w1 (h : Below w.heap.size w w1) => (hR.below h).good)
  have hnum := Lib.hid (fun w1 (h : Below w.heap.size w w1) => numberR_c B gR n b false hm hb w1 (hR.below h))
  have hlt := hR.lt
  have hBw : B ≤ w.heap.size := by obtain ⟨_, _, _, h, _⟩ := hR; exact h
  clear hR hb
  go_enter_defers Tryz.func138, Tryz.ntmps138
  go_wp2_with fail
  obtain ⟨GP, hGP⟩ : ∃ GP, GP = w.heap.size := ⟨_, rfl⟩
  rw [← hGP]
  refine calls_at (fun w1 hW => ?_)
  have hb1 : Below w.heap.size w w1 := by rw [hW]; exact ((Below.refl _ _).alloc (Nat.le_refl _) _).alloc (by rw [World.size_alloc]; omega) _
  have kX : Blk w1 (GP + 1) 3 #[.int .i64 0] := by rw [hW, hGP]; exact blk_at (by simp) (Blk.new _ _ _)
  have n1 : GP + 1 ≠ gR := by omega
  have lo : w.heap.size ≤ GP := by omega
  clear hW hGP
  refine (hg.out w1 hb1).mono ?_
  rintro e w2 ⟨rfl, rfl⟩
  have hnum1 := Lib.hid (hnum.out w1 hb1)
  replace hb1 := Lib.hid hb1
  replace kX := Lib.hid kX
  clear hnum hg
  go_wp2_with fail
  refine hnum1.out.mono ?_
  rintro e w3 ⟨rfl, hR3, hgr⟩
  have kX3 := kX.out.grown hgr (fun e => n1 (Option.some.inj e))
  have cX := kX3.cell 0
  have fX := kX3.frozen 0
  simp only [List.getElem?_toArray, List.getElem?_cons_zero] at cX
  replace hR3 := Lib.hid hR3
  replace hgr := Lib.hid hgr
  clear hnum1 kX kX3
  go_wp2_with fail
  refine leaves_cons (f := 194) (args := #[.pointer (some ⟨GP, 0, none⟩), .pointer (some ⟨GP + 1, 0, none⟩)]) (by simp) (by simp [go_sem]) ?_
  refine (wtc_int_idle ⟨GP, 0, none⟩ ⟨GP + 1, 0, none⟩ _).mono ?_
  rintro e u' w'' ⟨rfl, rfl, rfl⟩
  have hfin : Rd B (w3.setCell ⟨GP + 1, 0, none⟩ (.int .i64 (intv b))) gR (n - 8) (fun j => b (8 + j)) false ∧ w.grownBy (w3.setCell ⟨GP + 1, 0, none⟩ (.int .i64 (intv b))) (some gR) := by
    have hs := wgrown_set w3 (GP + 1) 0 (.int .i64 (intv b))
    refine ⟨hR3.out.grown hs (by omega) (by omega), ?_⟩
    exact ⟨(hs.os.trans hgr.out.os).trans hb1.out.os, (hs.tape.trans hgr.out.tape).trans hb1.out.tape, (hs.output.trans hgr.out.output).trans hb1.out.output, Nat.le_trans hb1.out.size (Nat.le_trans hgr.out.size hs.size), fun k hk hne => ((hs.block k (Nat.lt_of_lt_of_le hk (Nat.le_trans hb1.out.size hgr.out.size)) (fun e => by have := Option.some.inj e; omega)).trans (hgr.out.block k (Nat.lt_of_lt_of_le hk hb1.out.size) hne)).trans (hb1.out.block k hk)⟩
  simp [Leaves, settle, results, Tryz.results138, go_sem]
  have c9 : (w3.setCell ⟨GP + 1, 0, none⟩ (.int .i64 (intv b))).cell? ⟨GP + 1, 0, none⟩ = some (.int .i64 (intv b)) := World.cell?_setCell_same _ _ _ cX
  rw [c9]
  exact ⟨_, rfl, rfl, hfin⟩
end Go.Proofs.YtgjffaoggjlamaaGreatDoor

namespace Go.Proofs.YtgjffaoggjlamaaGreatDoor
open Go Go.RowKit
theorem rmust_t (c : Int) (w : World) : Calls Tryz.prog 66 #[.bool true, .int .i64 c] w fun e w' => e = .returned (.tuple #[]) ∧ w = w' := by
  go_enter Tryz.func66, Tryz.ntmps66
  go_wp2
  go_returns
  exact ⟨rfl, rfl⟩
/-- what root panics with -/
def errP (c : Int) : List PanicEntry := [{ v := .iface 31 (.int .i64 c), recovered := false }]
theorem rmust_f (c : Int) (w : World) : Calls Tryz.prog 66 #[.bool false, .int .i64 c] w fun e w' => e = .panicked (errP c) ∧ w = w' := by
  go_enter Tryz.func66, Tryz.ntmps66
  go_wp2
  exact ⟨rfl, ⟨rfl, rfl⟩⟩
theorem nil_neq (w : World) : (binOp .neq 20 .nilIface .nilIface).run Tryz.prog w = .ok (.bool false) w := by kernel_rfl
theorem err_neq (c : Int) (w : World) : (binOp .neq 20 (.iface 31 (.int .i64 c)) .nilIface).run Tryz.prog w = .ok (.bool true) w := by kernel_rfl
theorem err_is (c : Int) (w : World) : (Instr.typeAssert (.iface 31 (.int .i64 c)) 20 31 true).run Tryz.prog w = .ok (.tuple #[.int .i64 c, .bool true]) w := by kernel_rfl
set_option maxRecDepth 20000 in
set_option maxHeartbeats 1000000 in
theorem rtB_idle (ge gx : Nat) (w : World) :
    CallsD Tryz.prog 140 #[.pointer (some ⟨ge, 0, none⟩), .pointer (some ⟨gx, 0, none⟩)] .returning w fun e u' w' => e = .returned (.tuple #[]) ∧ u' = .returning ∧ w' = w := by
  have hnn := nil_neq
  refine callsD_of_wpS Tryz.func140 rfl fun c₀ cs hu => ?_
  apply wpS_seq
  apply wpS_region
  simp [wpOpsS, go_sem, recoverD, hu, Tryz.ntmps140, Exit.thenS]
  refine wpS_of_wp ?_
  rw [show (#[.pointer (some ⟨ge, 0, none⟩), .pointer (some ⟨gx, 0, none⟩)] ++ ((Array.replicate 15 undef).setIfInBounds 3 .nilIface).setIfInBounds 0 .nilIface) = #[.pointer (some ⟨ge, 0, none⟩), .pointer (some ⟨gx, 0, none⟩), .nilIface, undef, undef, .nilIface, undef, undef, undef, undef, undef, undef, undef, undef, undef, undef, undef] by kernel_rfl]
  go_wp2_with fail
  cases c₀
  simp_all [bodyPostS, results, Tryz.results140]
set_option maxRecDepth 20000 in
set_option maxHeartbeats 1000000 in
theorem rtB_err (ge gx : Nat) (c x : Int) (v : Value) (older : List PanicEntry) (w : World) (he : w.cell? ⟨ge, 0, none⟩ = some (.int .i64 x)) (hez : w.frozen? ⟨ge, 0, none⟩ = false) (hx : w.cell? ⟨gx, 0, none⟩ = some v) (hxz : w.frozen? ⟨gx, 0, none⟩ = false) (hne : gx ≠ ge) :
    CallsD Tryz.prog 140 #[.pointer (some ⟨ge, 0, none⟩), .pointer (some ⟨gx, 0, none⟩)] (.panicking ({ v := .iface 31 (.int .i64 c), recovered := false } :: older)) w fun e u' w' =>
      e = .returned (.tuple #[]) ∧ u' = .panicking ({ v := .iface 31 (.int .i64 c), recovered := true } :: older) ∧ w' = (w.setCell ⟨ge, 0, none⟩ (.int .i64 c)).setCell ⟨gx, 0, none⟩ (.slice none 0 0) := by
  have hnm := err_neq c
  have hta := err_is c
  refine callsD_of_wpS Tryz.func140 rfl fun c₀ cs hu => ?_
  apply wpS_seq
  apply wpS_region
  simp [wpOpsS, go_sem, recoverD, hu, Tryz.ntmps140, Exit.thenS]
  refine wpS_of_wp ?_
  rw [show (#[.pointer (some ⟨ge, 0, none⟩), .pointer (some ⟨gx, 0, none⟩)] ++ ((Array.replicate 15 undef).setIfInBounds 3 (.iface 31 (.int .i64 c))).setIfInBounds 0 (.iface 31 (.int .i64 c))) = #[.pointer (some ⟨ge, 0, none⟩), .pointer (some ⟨gx, 0, none⟩), (.iface 31 (.int .i64 c)), undef, undef, (.iface 31 (.int .i64 c)), undef, undef, undef, undef, undef, undef, undef, undef, undef, undef, undef] by kernel_rfl]
  go_wp2
  simp [bodyPostS, results, Tryz.results140]
set_option maxRecDepth 20000 in
set_option maxHeartbeats 1000000 in
theorem rtO_idle (ge gx : Nat) (w : World) :
    CallsD Tryz.prog 131 #[.pointer (some ⟨ge, 0, none⟩), .pointer (some ⟨gx, 0, none⟩)] .returning w fun e u' w' => e = .returned (.tuple #[]) ∧ u' = .returning ∧ w' = w := by
  have hnn := nil_neq
  refine callsD_of_wpS Tryz.func131 rfl fun c₀ cs hu => ?_
  apply wpS_seq
  apply wpS_region
  simp [wpOpsS, go_sem, recoverD, hu, Tryz.ntmps131, Exit.thenS]
  refine wpS_of_wp ?_
  rw [show (#[.pointer (some ⟨ge, 0, none⟩), .pointer (some ⟨gx, 0, none⟩)] ++ ((Array.replicate 15 undef).setIfInBounds 3 .nilIface).setIfInBounds 0 .nilIface) = #[.pointer (some ⟨ge, 0, none⟩), .pointer (some ⟨gx, 0, none⟩), .nilIface, undef, undef, .nilIface, undef, undef, undef, undef, undef, undef, undef, undef, undef, undef, undef] by kernel_rfl]
  go_wp2_with fail
  cases c₀
  simp_all [bodyPostS, results, Tryz.results131]
set_option maxRecDepth 20000 in
set_option maxHeartbeats 1000000 in
theorem rtO_err (ge gx : Nat) (c x : Int) (v : Value) (older : List PanicEntry) (w : World) (he : w.cell? ⟨ge, 0, none⟩ = some (.int .i64 x)) (hez : w.frozen? ⟨ge, 0, none⟩ = false) (hx : w.cell? ⟨gx, 0, none⟩ = some v) (hxz : w.frozen? ⟨gx, 0, none⟩ = false) (hne : gx ≠ ge) :
    CallsD Tryz.prog 131 #[.pointer (some ⟨ge, 0, none⟩), .pointer (some ⟨gx, 0, none⟩)] (.panicking ({ v := .iface 31 (.int .i64 c), recovered := false } :: older)) w fun e u' w' =>
      e = .returned (.tuple #[]) ∧ u' = .panicking ({ v := .iface 31 (.int .i64 c), recovered := true } :: older) ∧ w' = (w.setCell ⟨ge, 0, none⟩ (.int .i64 c)).setCell ⟨gx, 0, none⟩ (.bool false) := by
  have hnm := err_neq c
  have hta := err_is c
  refine callsD_of_wpS Tryz.func131 rfl fun c₀ cs hu => ?_
  apply wpS_seq
  apply wpS_region
  simp [wpOpsS, go_sem, recoverD, hu, Tryz.ntmps131, Exit.thenS]
  refine wpS_of_wp ?_
  rw [show (#[.pointer (some ⟨ge, 0, none⟩), .pointer (some ⟨gx, 0, none⟩)] ++ ((Array.replicate 15 undef).setIfInBounds 3 (.iface 31 (.int .i64 c))).setIfInBounds 0 (.iface 31 (.int .i64 c))) = #[.pointer (some ⟨ge, 0, none⟩), .pointer (some ⟨gx, 0, none⟩), (.iface 31 (.int .i64 c)), undef, undef, (.iface 31 (.int .i64 c)), undef, undef, undef, undef, undef, undef, undef, undef, undef, undef, undef] by kernel_rfl]
  go_wp2
  simp [bodyPostS, results, Tryz.results131]
end Go.Proofs.YtgjffaoggjlamaaGreatDoor

namespace Go.Proofs.YtgjffaoggjlamaaGreatDoor
open Go Go.RowKit
/-- a number's eight bytes -/
def nb (n : Int) (j : Nat) : Int := n / 2 ^ (8 * (7 - j)) % 256
def nbF (n : Int) (k j : Nat) : Int := if 8 - k ≤ j then nb n j else 0
set_option maxRecDepth 20000 in
set_option maxHeartbeats 1000000 in
theorem wnum_c (n : Int) (h0 : 0 ≤ n) (h1 : n < 4611686018427387904) (w : World) : Calls Tryz.prog 148 #[.int .i64 n] w (PostBs 8 (nb n) w) := by
  have hmk : ∀ w, (Instr.makeSlice 26 (.int .i64 8) (.int .i64 8)).run Tryz.prog w = .ok (.slice (some ⟨w.heap.size, 0, none⟩) 8 8) (w.alloc (.cells (List.replicate 8 (.int .u8 0)).toArray 5)) := fun _ => by kernel_rfl
  have hwn : IntKind.u64.wrap n = n := by simp [IntKind.wrap, IntKind.bits, IntKind.signed]; omega
  go_enter Tryz.func148, Tryz.ntmps148
  go_wp2
  refine at_world (fun W0 hW => ?_)
  have hR : RowB W0 w.heap.size 8 8 (nbF n 0) := by
    rw [hW]
    exact ⟨_, heap_alloc_new w _, Nat.le_refl _, by unfold maxLen; decide, rfl, by
      have e : cB 8 (nbF n 0) = cB 8 (fun _ => 0) := cB_congr fun i hi => by unfold nbF; rw [if_neg (by omega)]
      refine Eq.trans ?_ e.symm
      kernel_rfl⟩
  have hb0 : Below w.heap.size w W0 := by rw [hW]; exact (Below.refl _ _).alloc (Nat.le_refl _) _
  clear hW hmk
  obtain ⟨G, hG⟩ : ∃ G, G = w.heap.size := ⟨_, rfl⟩
  rw [← hG] at hR ⊢
  have lo : w.heap.size ≤ G := by omega
  clear hG
  go_loopw [4, 8] (fun _ i wr => ∃ k : Nat, k ≤ 8 ∧ i = .int .i64 k ∧ RowB wr G 8 8 (nbF n k) ∧ Below w.heap.size w wr) (fun _ i _ => (8 - intOf i).toNat)
  case atStart => exact ⟨0, by omega, rfl, hR, hb0⟩
  case round =>
    clear hR hb0
    obtain ⟨k, hk, hi, hR, hb⟩ := hrel
    subst hi
    by_cases he : k = 8
    · subst he
      have hP := Lib.hid (show PostBs 8 (nb n) w (.returned (.slice (some ⟨G, 0, none⟩) 8 8)) wr from ⟨G, 8, rfl, lo, hR.congr (fun j _ => by unfold nbF; rw [if_pos (by omega)]), hb⟩)
      clear hR hb
      go_wp2
      go_returns
      exact hP.out
    have hk0 : (0 : Int) ≤ (k : Int) := by omega
    have hk1 : (k : Int) < 8 := by omega
    obtain ⟨i, hi⟩ : ∃ i, i = 7 - k := ⟨_, rfl⟩
    obtain ⟨m, hm⟩ : ∃ m, m = 8 * k := ⟨_, rfl⟩
    have hwi : IntKind.i64.wrap (7 - (k : Int)) = (i : Int) := by rw [IntKind.wrap_i64]; omega
    have hwm : IntKind.i64.wrap (8 * (k : Int)) = (m : Int) := by rw [IntKind.wrap_i64]; omega
    have hm0 : (0 : Int) ≤ (m : Int) := by omega
    have hm1 : (m : Int) ≤ 64 := by omega
    obtain ⟨d, hd⟩ : ∃ d, d = nb n i := ⟨_, rfl⟩
    have hwd : IntKind.u8.wrap (n / 2 ^ m) = d := by
      rw [IntKind.wrap_u8, hd]
      unfold nb
      rw [show 8 * (7 - i) = m by omega]
    have hi0 : (0 : Int) ≤ (i : Int) := by omega
    have hi1 : (i : Int) < 8 := by omega
    have c0 := hR.cell i (by omega)
    have f0 := hR.frozen i
    have hst := Lib.hid ((hR.set_ i (by omega) d).congr (f' := nbF n (k + 1)) (fun j _ => by
      unfold nbF
      by_cases e : j = i
      · subst e; rw [if_pos rfl, if_pos (by omega), hd]
      · rw [if_neg e]
        by_cases e2 : 8 - k ≤ j
        · rw [if_pos e2, if_pos (by omega)]
        · rw [if_neg e2, if_neg (by omega)]))
    have hb2 := Lib.hid (hb.setCell (p := ⟨G, i, none⟩) lo (.int .u8 d))
    have hkk : k + 1 ≤ 8 := by omega
    clear hR hb hi hm hd hk he
    go_wp2
    exact ⟨⟨k + 1, hkk, by simp, hst.out, hb2.out⟩, by simp [intOf]; omega⟩
set_option maxRecDepth 20000 in
set_option maxHeartbeats 1000000 in
theorem rdNumber_c (B gR n : Nat) (b : Nat → Int) (hm : 8 ≤ n) (hb : ∀ j, 0 ≤ b j ∧ b j < 256) (w : World) (hR : Rd B w gR n b false) : Calls Tryz.prog 79 #[.pointer (some ⟨gR, 0, none⟩)] w fun e w' => e = .returned (.int .i64 (intv b)) ∧ Rd B w' gR (n - 8) (fun j => b (8 + j)) false ∧ w.grownBy w' (some gR) := by
  have hmf : ∀ (fn : Fn) (first cap : Array Value) (w : World), (Instr.makeFunc fn first cap).run Tryz.prog w = .ok (.func fn first cap) w := fun _ _ _ _ => rfl
  have ht := Lib.hid (triedN_c B gR n b hm hb w hR)
  have hnp : ∀ w : World, (binOp .eql 114 (.pointer (some ⟨gR, 0, none⟩)) (.pointer none)).run Tryz.prog w = .ok (.bool false) w := fun _ => by kernel_rfl
  clear hR hb
  go_enter Tryz.func79, Tryz.ntmps79
  go_wp2_with fail
  refine ht.out.mono ?_
  rintro e w2 ⟨rfl, hR2, hgr⟩
  replace hR2 := Lib.hid hR2
  replace hgr := Lib.hid hgr
  go_wp2_with fail
  go_returns
  exact ⟨rfl, hR2.out, hgr.out⟩
end Go.Proofs.YtgjffaoggjlamaaGreatDoor

namespace Go.Proofs.YtgjffaoggjlamaaGreatDoor
open Go Go.RowKit
set_option maxRecDepth 20000 in
set_option maxHeartbeats 1000000 in
theorem rtPut_ok (gr : Nat) (Φ : World → Option Addr → Nat → Nat → World → Prop) (w : World) (hcl : ∀ w1, Below w.heap.size w w1 → Calls Tryz.prog 82 #[.pointer (some ⟨gr, 0, none⟩)] w1 fun e w' => ∃ p n c, e = .returned (.slice p n c) ∧ Φ w1 p n c w' ∧ Below w1.heap.size w1 w') :
    Calls Tryz.prog 81 #[.func (.func 82) #[] #[.pointer (some ⟨gr, 0, none⟩)]] w fun e w' => ∃ p n c w1 w2 GX, e = .returned (.tuple #[.slice p n c, .int .i64 0]) ∧ Φ w1 p n c w2 ∧ Below w.heap.size w w2 ∧ w.heap.size ≤ GX ∧ GX + 2 ≤ w1.heap.size ∧ w1.heap.size ≤ w2.heap.size ∧ w' = (w2.setCell ⟨GX, 0, none⟩ (.slice p n c)).setCell ⟨GX + 1, 0, none⟩ (.int .i64 0) := by
  have hmf : ∀ (fn : Fn) (first cap : Array Value) (w : World), (Instr.makeFunc fn first cap).run Tryz.prog w = .ok (.func fn first cap) w := fun _ _ _ _ => rfl
  replace hcl := Lib.hid hcl
  go_enter_defers Tryz.func81, Tryz.ntmps81
  go_wp2_with fail
  obtain ⟨GX, hGX⟩ : ∃ GX, GX = w.heap.size := ⟨_, rfl⟩
  rw [← hGX]
  refine calls_at (fun w1 hW => ?_)
  have hb1 : Below w.heap.size w w1 := by rw [hW]; exact ((Below.refl _ _).alloc (Nat.le_refl _) _).alloc (by rw [World.size_alloc]; omega) _
  have kX : Blk w1 GX 26 #[.slice none 0 0] := by rw [hW, hGX]; exact (Blk.new _ _ _).alloc _
  have kE : Blk w1 (GX + 1) 31 #[.int .i64 0] := by rw [hW, hGX]; exact blk_at (by simp) (Blk.new _ _ _)
  have hl1 : GX + 2 ≤ w1.heap.size := by rw [hW]; simp [World.size_alloc]; omega
  have lo : w.heap.size ≤ GX := by omega
  clear hW hGX
  replace hb1 := Lib.hid hb1
  refine (hcl.out w1 hb1.out).mono ?_
  rintro e w2 ⟨p, n, c, rfl, hv, hb2⟩
  have hs12 := hb2.size
  have kX2 := kX.below hb2
  have kE2 := kE.below hb2
  have cX := kX2.cell 0
  have fX := kX2.frozen 0
  have cE := kE2.cell 0
  have fE := kE2.frozen 0
  have lX := kX2.lt
  have lE := kE2.lt
  simp only [List.getElem?_toArray, List.getElem?_cons_zero] at cX cE
  replace hb2 := hb1.out.trans (hb2.mono hb1.out.size)
  replace hb2 := Lib.hid hb2
  replace hv := Lib.hid hv
  have hl2 := hs12
  clear hcl kX kE kX2 kE2 hs12
  go_wp2_with fail
  refine leaves_cons (f := 140) (args := #[.pointer (some ⟨GX + 1, 0, none⟩), .pointer (some ⟨GX, 0, none⟩)]) (by simp) (by simp [go_sem]) ?_
  refine (rtB_idle (GX + 1) GX _).mono ?_
  rintro e u' w'' ⟨rfl, rfl, rfl⟩
  have c1 : ((w2.setCell ⟨GX, 0, none⟩ (.slice p n c)).setCell ⟨GX + 1, 0, none⟩ (.int .i64 0)).cell? ⟨GX, 0, none⟩ = some (.slice p n c) := by
    rw [World.cell?_setCell_other _ _ _ _ (by intro e; injection e with e; omega)]
    exact World.cell?_setCell_same _ _ _ cX
  have c2 : ((w2.setCell ⟨GX, 0, none⟩ (.slice p n c)).setCell ⟨GX + 1, 0, none⟩ (.int .i64 0)).cell? ⟨GX + 1, 0, none⟩ = some (.int .i64 0) := by
    refine World.cell?_setCell_same _ _ _ (u := .int .i64 0) ?_
    rw [World.cell?_setCell_other _ _ _ _ (by intro e; injection e with e; omega)]
    exact cE
  have hres : ∃ W, W = (w2.setCell ⟨GX, 0, none⟩ (.slice p n c)).setCell ⟨GX + 1, 0, none⟩ (.int .i64 0) := ⟨_, rfl⟩
  obtain ⟨W, hW⟩ := hres
  rw [← hW] at c1 c2 ⊢
  replace hW := Lib.hid hW
  simp only [Leaves, settle]
  refine ⟨.tuple #[.slice p n c, .int .i64 0], ?_, p, n, c, w1, w2, GX, rfl, hv.out, hb2.out, lo, hl1, hl2, hW.out⟩
  simp [results, Tryz.results81, go_sem, c1, c2]
set_option maxRecDepth 20000 in
set_option maxHeartbeats 1000000 in
theorem rtPut_err (gr : Nat) (code : Int) (w : World) (hcl : ∀ w1, Below w.heap.size w w1 → Calls Tryz.prog 82 #[.pointer (some ⟨gr, 0, none⟩)] w1 fun e w' => e = .panicked (errP code) ∧ Below w1.heap.size w1 w') :
    Calls Tryz.prog 81 #[.func (.func 82) #[] #[.pointer (some ⟨gr, 0, none⟩)]] w fun e w' => e = .returned (.tuple #[.slice none 0 0, .int .i64 code]) ∧ Below w.heap.size w w' := by
  have hmf : ∀ (fn : Fn) (first cap : Array Value) (w : World), (Instr.makeFunc fn first cap).run Tryz.prog w = .ok (.func fn first cap) w := fun _ _ _ _ => rfl
  replace hcl := Lib.hid hcl
  go_enter_defers Tryz.func81, Tryz.ntmps81
  go_wp2_with fail
  obtain ⟨GX, hGX⟩ : ∃ GX, GX = w.heap.size := ⟨_, rfl⟩
  rw [← hGX]
  refine calls_at (fun w1 hW => ?_)
  have hb1 : Below w.heap.size w w1 := by rw [hW]; exact ((Below.refl _ _).alloc (Nat.le_refl _) _).alloc (by rw [World.size_alloc]; omega) _
  have kX : Blk w1 GX 26 #[.slice none 0 0] := by rw [hW, hGX]; exact (Blk.new _ _ _).alloc _
  have kE : Blk w1 (GX + 1) 31 #[.int .i64 0] := by rw [hW, hGX]; exact blk_at (by simp) (Blk.new _ _ _)
  have hl1 : GX + 2 ≤ w1.heap.size := by rw [hW]; simp [World.size_alloc]; omega
  have lo : w.heap.size ≤ GX := by omega
  clear hW hGX
  replace hb1 := Lib.hid hb1
  refine (hcl.out w1 hb1.out).mono ?_
  rintro e w2 ⟨rfl, hb2⟩
  have kX2 := kX.below hb2
  have kE2 := kE.below hb2
  have cX := kX2.cell 0
  have fX := kX2.frozen 0
  have cE := kE2.cell 0
  have fE := kE2.frozen 0
  have lX := kX2.lt
  have lE := kE2.lt
  simp only [List.getElem?_toArray, List.getElem?_cons_zero] at cX cE
  replace hb2 := hb1.out.trans (hb2.mono hb1.out.size)
  replace hb2 := Lib.hid hb2
  clear hcl kX kE kX2 kE2 hl1
  unfold errP
  go_wp2_with fail
  refine leaves_cons (f := 140) (args := #[.pointer (some ⟨GX + 1, 0, none⟩), .pointer (some ⟨GX, 0, none⟩)]) (by simp) (by simp [go_sem]) ?_
  refine (rtB_err (GX + 1) GX code 0 _ [] _ cE fE cX fX (by omega)).mono ?_
  rintro e u' w'' ⟨rfl, rfl, rfl⟩
  have c1 : ((w2.setCell ⟨GX + 1, 0, none⟩ (.int .i64 code)).setCell ⟨GX, 0, none⟩ (.slice none 0 0)).cell? ⟨GX, 0, none⟩ = some (.slice none 0 0) := by
    refine World.cell?_setCell_same _ _ _ (u := .slice none 0 0) ?_
    rw [World.cell?_setCell_other _ _ _ _ (by intro e; injection e with e; omega)]
    exact cX
  have c2 : ((w2.setCell ⟨GX + 1, 0, none⟩ (.int .i64 code)).setCell ⟨GX, 0, none⟩ (.slice none 0 0)).cell? ⟨GX + 1, 0, none⟩ = some (.int .i64 code) := by
    rw [World.cell?_setCell_other _ _ _ _ (by intro e; injection e with e; omega)]
    exact World.cell?_setCell_same _ _ _ cE
  have hfin : Below w.heap.size w ((w2.setCell ⟨GX + 1, 0, none⟩ (.int .i64 code)).setCell ⟨GX, 0, none⟩ (.slice none 0 0)) := (hb2.out.setCell (p := ⟨GX + 1, 0, none⟩) (by show w.heap.size ≤ GX + 1; omega) _).setCell (p := ⟨GX, 0, none⟩) lo _
  obtain ⟨W, hW⟩ : ∃ W, W = (w2.setCell ⟨GX + 1, 0, none⟩ (.int .i64 code)).setCell ⟨GX, 0, none⟩ (.slice none 0 0) := ⟨_, rfl⟩
  rw [← hW] at c1 c2 hfin ⊢
  clear hW
  simp only [Leaves, settle, List.dropWhile_nil]
  refine ⟨.tuple #[.slice none 0 0, .int .i64 code], ?_, rfl, hfin⟩
  simp [results, Tryz.results81, go_sem, c1, c2]
set_option maxRecDepth 20000 in
set_option maxHeartbeats 1000000 in
theorem rtCheck_ok (gr gk : Nat) (Φ : World → Bool → World → Prop) (w : World) (hcl : ∀ w1, Below w.heap.size w w1 → Calls Tryz.prog 65 #[.pointer (some ⟨gr, 0, none⟩), .pointer (some ⟨gk, 0, none⟩)] w1 fun e w' => ∃ b, e = .returned (.bool b) ∧ Φ w1 b w' ∧ Below w1.heap.size w1 w') :
    Calls Tryz.prog 64 #[.func (.func 65) #[] #[.pointer (some ⟨gr, 0, none⟩), .pointer (some ⟨gk, 0, none⟩)]] w fun e w' => ∃ b w1 w2 GX, e = .returned (.tuple #[.bool b, .int .i64 0]) ∧ Φ w1 b w2 ∧ Below w.heap.size w w2 ∧ w.heap.size ≤ GX ∧ GX + 2 ≤ w1.heap.size ∧ w1.heap.size ≤ w2.heap.size ∧ w' = (w2.setCell ⟨GX, 0, none⟩ (.bool b)).setCell ⟨GX + 1, 0, none⟩ (.int .i64 0) := by
  have hmf : ∀ (fn : Fn) (first cap : Array Value) (w : World), (Instr.makeFunc fn first cap).run Tryz.prog w = .ok (.func fn first cap) w := fun _ _ _ _ => rfl
  replace hcl := Lib.hid hcl
  go_enter_defers Tryz.func64, Tryz.ntmps64
  go_wp2_with fail
  obtain ⟨GX, hGX⟩ : ∃ GX, GX = w.heap.size := ⟨_, rfl⟩
  rw [← hGX]
  refine calls_at (fun w1 hW => ?_)
  have hb1 : Below w.heap.size w w1 := by rw [hW]; exact ((Below.refl _ _).alloc (Nat.le_refl _) _).alloc (by rw [World.size_alloc]; omega) _
  have kX : Blk w1 GX 4 #[.bool false] := by rw [hW, hGX]; exact (Blk.new _ _ _).alloc _
  have kE : Blk w1 (GX + 1) 31 #[.int .i64 0] := by rw [hW, hGX]; exact blk_at (by simp) (Blk.new _ _ _)
  have hl1 : GX + 2 ≤ w1.heap.size := by rw [hW]; simp [World.size_alloc]; omega
  have lo : w.heap.size ≤ GX := by omega
  clear hW hGX
  replace hb1 := Lib.hid hb1
  refine (hcl.out w1 hb1.out).mono ?_
  rintro e w2 ⟨b, rfl, hv, hb2⟩
  have hs12 := hb2.size
  have kX2 := kX.below hb2
  have kE2 := kE.below hb2
  have cX := kX2.cell 0
  have fX := kX2.frozen 0
  have cE := kE2.cell 0
  have fE := kE2.frozen 0
  have lX := kX2.lt
  have lE := kE2.lt
  simp only [List.getElem?_toArray, List.getElem?_cons_zero] at cX cE
  replace hb2 := hb1.out.trans (hb2.mono hb1.out.size)
  replace hb2 := Lib.hid hb2
  replace hv := Lib.hid hv
  have hl2 := hs12
  clear hcl kX kE kX2 kE2 hs12
  go_wp2_with fail
  refine leaves_cons (f := 131) (args := #[.pointer (some ⟨GX + 1, 0, none⟩), .pointer (some ⟨GX, 0, none⟩)]) (by simp) (by simp [go_sem]) ?_
  refine (rtO_idle (GX + 1) GX _).mono ?_
  rintro e u' w'' ⟨rfl, rfl, rfl⟩
  have c1 : ((w2.setCell ⟨GX, 0, none⟩ (.bool b)).setCell ⟨GX + 1, 0, none⟩ (.int .i64 0)).cell? ⟨GX, 0, none⟩ = some (.bool b) := by
    rw [World.cell?_setCell_other _ _ _ _ (by intro e; injection e with e; omega)]
    exact World.cell?_setCell_same _ _ _ cX
  have c2 : ((w2.setCell ⟨GX, 0, none⟩ (.bool b)).setCell ⟨GX + 1, 0, none⟩ (.int .i64 0)).cell? ⟨GX + 1, 0, none⟩ = some (.int .i64 0) := by
    refine World.cell?_setCell_same _ _ _ (u := .int .i64 0) ?_
    rw [World.cell?_setCell_other _ _ _ _ (by intro e; injection e with e; omega)]
    exact cE
  have hres : ∃ W, W = (w2.setCell ⟨GX, 0, none⟩ (.bool b)).setCell ⟨GX + 1, 0, none⟩ (.int .i64 0) := ⟨_, rfl⟩
  obtain ⟨W, hW⟩ := hres
  rw [← hW] at c1 c2 ⊢
  replace hW := Lib.hid hW
  simp only [Leaves, settle]
  refine ⟨.tuple #[.bool b, .int .i64 0], ?_, b, w1, w2, GX, rfl, hv.out, hb2.out, lo, hl1, hl2, hW.out⟩
  simp [results, Tryz.results64, go_sem, c1, c2]
set_option maxRecDepth 20000 in
set_option maxHeartbeats 1000000 in
theorem rtCheck_err (gr gk : Nat) (code : Int) (w : World) (hcl : ∀ w1, Below w.heap.size w w1 → Calls Tryz.prog 65 #[.pointer (some ⟨gr, 0, none⟩), .pointer (some ⟨gk, 0, none⟩)] w1 fun e w' => e = .panicked (errP code) ∧ Below w1.heap.size w1 w') :
    Calls Tryz.prog 64 #[.func (.func 65) #[] #[.pointer (some ⟨gr, 0, none⟩), .pointer (some ⟨gk, 0, none⟩)]] w fun e w' => e = .returned (.tuple #[.bool false, .int .i64 code]) ∧ Below w.heap.size w w' := by
  have hmf : ∀ (fn : Fn) (first cap : Array Value) (w : World), (Instr.makeFunc fn first cap).run Tryz.prog w = .ok (.func fn first cap) w := fun _ _ _ _ => rfl
  replace hcl := Lib.hid hcl
  go_enter_defers Tryz.func64, Tryz.ntmps64
  go_wp2_with fail
  obtain ⟨GX, hGX⟩ : ∃ GX, GX = w.heap.size := ⟨_, rfl⟩
  rw [← hGX]
  refine calls_at (fun w1 hW => ?_)
  have hb1 : Below w.heap.size w w1 := by rw [hW]; exact ((Below.refl _ _).alloc (Nat.le_refl _) _).alloc (by rw [World.size_alloc]; omega) _
  have kX : Blk w1 GX 4 #[.bool false] := by rw [hW, hGX]; exact (Blk.new _ _ _).alloc _
  have kE : Blk w1 (GX + 1) 31 #[.int .i64 0] := by rw [hW, hGX]; exact blk_at (by simp) (Blk.new _ _ _)
  have hl1 : GX + 2 ≤ w1.heap.size := by rw [hW]; simp [World.size_alloc]; omega
  have lo : w.heap.size ≤ GX := by omega
  clear hW hGX
  replace hb1 := Lib.hid hb1
  refine (hcl.out w1 hb1.out).mono ?_
  rintro e w2 ⟨rfl, hb2⟩
  have kX2 := kX.below hb2
  have kE2 := kE.below hb2
  have cX := kX2.cell 0
  have fX := kX2.frozen 0
  have cE := kE2.cell 0
  have fE := kE2.frozen 0
  have lX := kX2.lt
  have lE := kE2.lt
  simp only [List.getElem?_toArray, List.getElem?_cons_zero] at cX cE
  replace hb2 := hb1.out.trans (hb2.mono hb1.out.size)
  replace hb2 := Lib.hid hb2
  clear hcl kX kE kX2 kE2 hl1
  unfold errP
  go_wp2_with fail
  refine leaves_cons (f := 131) (args := #[.pointer (some ⟨GX + 1, 0, none⟩), .pointer (some ⟨GX, 0, none⟩)]) (by simp) (by simp [go_sem]) ?_
  refine (rtO_err (GX + 1) GX code 0 _ [] _ cE fE cX fX (by omega)).mono ?_
  rintro e u' w'' ⟨rfl, rfl, rfl⟩
  have c1 : ((w2.setCell ⟨GX + 1, 0, none⟩ (.int .i64 code)).setCell ⟨GX, 0, none⟩ (.bool false)).cell? ⟨GX, 0, none⟩ = some (.bool false) := by
    refine World.cell?_setCell_same _ _ _ (u := .bool false) ?_
    rw [World.cell?_setCell_other _ _ _ _ (by intro e; injection e with e; omega)]
    exact cX
  have c2 : ((w2.setCell ⟨GX + 1, 0, none⟩ (.int .i64 code)).setCell ⟨GX, 0, none⟩ (.bool false)).cell? ⟨GX + 1, 0, none⟩ = some (.int .i64 code) := by
    rw [World.cell?_setCell_other _ _ _ _ (by intro e; injection e with e; omega)]
    exact World.cell?_setCell_same _ _ _ cE
  have hfin : Below w.heap.size w ((w2.setCell ⟨GX + 1, 0, none⟩ (.int .i64 code)).setCell ⟨GX, 0, none⟩ (.bool false)) := (hb2.out.setCell (p := ⟨GX + 1, 0, none⟩) (by show w.heap.size ≤ GX + 1; omega) _).setCell (p := ⟨GX, 0, none⟩) lo _
  obtain ⟨W, hW⟩ : ∃ W, W = (w2.setCell ⟨GX + 1, 0, none⟩ (.int .i64 code)).setCell ⟨GX, 0, none⟩ (.bool false) := ⟨_, rfl⟩
  rw [← hW] at c1 c2 hfin ⊢
  clear hW
  simp only [Leaves, settle, List.dropWhile_nil]
  refine ⟨.tuple #[.bool false, .int .i64 code], ?_, rfl, hfin⟩
  simp [results, Tryz.results64, go_sem, c1, c2]
end Go.Proofs.YtgjffaoggjlamaaGreatDoor

namespace Go.Proofs.YtgjffaoggjlamaaGreatDoor
open Go Go.RowKit
def rtZ : Array Value := #[.int .i64 0, .int .i64 0, .int .i64 0, .slice none 0 0, .slice none 0 0]
theorem wgrown_tr {a w w' : World} {row : Option Nat} (h : a.grownBy w row) (k : w.grownBy w' row) : a.grownBy w' row :=
  ⟨k.os.trans h.os, k.tape.trans h.tape, k.output.trans h.output, Nat.le_trans h.size k.size, fun i hi hr => (k.block i (Nat.lt_of_lt_of_le hi h.size) hr).trans (h.block i hi hr)⟩
/-- five cells stored -/
theorem setRoot (w : World) (gx : Nat) (a b c d e : Value) {v0 v1 v2 v3 v4 : Value} {t : TypeId} (h : Blk w gx t #[v0, v1, v2, v3, v4]) : Blk (((((w.setCell ⟨gx, 0, none⟩ a).setCell ⟨gx, 1, none⟩ b).setCell ⟨gx, 2, none⟩ c).setCell ⟨gx, 3, none⟩ d).setCell ⟨gx, 4, none⟩ e) gx t #[a, b, c, d, e] ∧ w.grownBy (((((w.setCell ⟨gx, 0, none⟩ a).setCell ⟨gx, 1, none⟩ b).setCell ⟨gx, 2, none⟩ c).setCell ⟨gx, 3, none⟩ d).setCell ⟨gx, 4, none⟩ e) (some gx) :=
  ⟨((((h.set_ 0 a).set_ 1 b).set_ 2 c).set_ 3 d).set_ 4 e, wgrown_tr (wgrown_tr (wgrown_tr (wgrown_tr (wgrown_set _ _ _ _) (wgrown_set _ _ _ _)) (wgrown_set _ _ _ _)) (wgrown_set _ _ _ _)) (wgrown_set _ _ _ _)⟩
set_option maxRecDepth 20000 in
set_option maxHeartbeats 1000000 in
theorem rtR_idle (ge gx : Nat) (w : World) :
    CallsD Tryz.prog 137 #[.pointer (some ⟨ge, 0, none⟩), .pointer (some ⟨gx, 0, none⟩)] .returning w fun e u' w' => e = .returned (.tuple #[]) ∧ u' = .returning ∧ w' = w := by
  have hnn := nil_neq
  refine callsD_of_wpS Tryz.func137 rfl fun c₀ cs hu => ?_
  apply wpS_seq
  apply wpS_region
  simp [wpOpsS, go_sem, recoverD, hu, Tryz.ntmps137, Exit.thenS]
  refine wpS_of_wp ?_
  rw [show (#[.pointer (some ⟨ge, 0, none⟩), .pointer (some ⟨gx, 0, none⟩)] ++ ((Array.replicate 15 undef).setIfInBounds 3 .nilIface).setIfInBounds 0 .nilIface) = #[.pointer (some ⟨ge, 0, none⟩), .pointer (some ⟨gx, 0, none⟩), .nilIface, undef, undef, .nilIface, undef, undef, undef, undef, undef, undef, undef, undef, undef, undef, undef] by kernel_rfl]
  go_wp2_with fail
  cases c₀
  simp_all [bodyPostS, results, Tryz.results137]
set_option maxRecDepth 20000 in
set_option maxHeartbeats 1000000 in
theorem rtR_err (B ge gx : Nat) (c x : Int) (v0 v1 v2 v3 v4 : Value) (older : List PanicEntry) (w : World) (he : w.cell? ⟨ge, 0, none⟩ = some (.int .i64 x)) (hez : w.frozen? ⟨ge, 0, none⟩ = false) (hx : Blk w gx 28 #[v0, v1, v2, v3, v4]) (hne : gx ≠ ge) (hB1 : B ≤ ge) (hB2 : B ≤ gx) (hel : ge < w.heap.size) :
    CallsD Tryz.prog 137 #[.pointer (some ⟨ge, 0, none⟩), .pointer (some ⟨gx, 0, none⟩)] (.panicking ({ v := .iface 31 (.int .i64 c), recovered := false } :: older)) w fun e u' w' =>
      e = .returned (.tuple #[]) ∧ u' = .panicking ({ v := .iface 31 (.int .i64 c), recovered := true } :: older) ∧ Blk w' gx 28 rtZ ∧ w'.cell? ⟨ge, 0, none⟩ = some (.int .i64 c) ∧ Below B w w' := by
  have hnm := err_neq c
  have hta := err_is c
  obtain ⟨c0, c1, c2, c3, c4⟩ : w.cell? ⟨gx, 0, none⟩ = some v0 ∧ w.cell? ⟨gx, 1, none⟩ = some v1 ∧ w.cell? ⟨gx, 2, none⟩ = some v2 ∧ w.cell? ⟨gx, 3, none⟩ = some v3 ∧ w.cell? ⟨gx, 4, none⟩ = some v4 := ⟨hx.cell 0, hx.cell 1, hx.cell 2, hx.cell 3, hx.cell 4⟩
  have f0 := hx.frozen 0
  have f1 := hx.frozen 1
  have f2 := hx.frozen 2
  have f3 := hx.frozen 3
  have f4 := hx.frozen 4
  have hxl := hx.lt
  replace hx := Lib.hid hx
  refine callsD_of_wpS Tryz.func137 rfl fun c₀ cs hu => ?_
  apply wpS_seq
  apply wpS_region
  simp [wpOpsS, go_sem, recoverD, hu, Tryz.ntmps137, Exit.thenS]
  refine wpS_of_wp ?_
  rw [show (#[.pointer (some ⟨ge, 0, none⟩), .pointer (some ⟨gx, 0, none⟩)] ++ ((Array.replicate 15 undef).setIfInBounds 3 (.iface 31 (.int .i64 c))).setIfInBounds 0 (.iface 31 (.int .i64 c))) = #[.pointer (some ⟨ge, 0, none⟩), .pointer (some ⟨gx, 0, none⟩), .iface 31 (.int .i64 c), undef, undef, .iface 31 (.int .i64 c), undef, undef, undef, undef, undef, undef, undef, undef, undef, undef, undef] by kernel_rfl]
  go_wp2
  have hg1 := wgrown_set w ge 0 (.int .i64 c)
  have kx1 := hx.out.far (p := ⟨ge, 0, none⟩) hne (.int .i64 c)
  have ce1 := World.cell?_setCell_same w ⟨ge, 0, none⟩ (.int .i64 c) he
  have hb1 : Below B w (w.setCell ⟨ge, 0, none⟩ (.int .i64 c)) := (Below.refl _ _).setCell (p := ⟨ge, 0, none⟩) hB1 _
  have hl1 := hg1.size
  generalize w.setCell ⟨ge, 0, none⟩ (.int .i64 c) = w1 at *
  have key := setRoot w1 gx (.int .i64 0) (.int .i64 0) (.int .i64 0) (.slice none 0 0) (.slice none 0 0) kx1
  obtain ⟨k2, hg2⟩ := key
  generalize ((((w1.setCell ⟨gx, 0, none⟩ (.int .i64 0)).setCell ⟨gx, 1, none⟩ (.int .i64 0)).setCell ⟨gx, 2, none⟩ (.int .i64 0)).setCell ⟨gx, 3, none⟩ (.slice none 0 0)).setCell ⟨gx, 4, none⟩ (.slice none 0 0) = w2 at *
  have ce2 : w2.cell? ⟨ge, 0, none⟩ = some (.int .i64 c) := (World.cell?_of_block (hg2.block ge (by omega) (fun e => hne (Option.some.inj e).symm))).trans ce1
  have hb2 : Below B w w2 := hb1.grown hg2 (by omega) (fun k hk => by have : gx = k := Option.some.inj hk; omega)
  have hz := hg2.size
  have hfin := fun o => (⟨k2.alloc o, (World.cell?_of_block (Below.heap_alloc w2 o ge (by omega))).trans ce2, hb2.alloc (by omega) o⟩ : Blk (w2.alloc o) gx 28 rtZ ∧ (w2.alloc o).cell? ⟨ge, 0, none⟩ = some (.int .i64 c) ∧ Below B w (w2.alloc o))
  simp only [bodyPostS]
  exact ⟨trivial, _, rfl, .tuple #[], by simp [results, Tryz.results137], rfl, rfl, hfin _⟩
end Go.Proofs.YtgjffaoggjlamaaGreatDoor

namespace Go.Proofs.YtgjffaoggjlamaaGreatDoor
open Go Go.RowKit
/-- a root's five cells -/
def rtC (a b c : Int) (p1 : Option Addr) (n1 c1 : Nat) (p2 : Option Addr) (n2 c2 : Nat) : Array Value := #[.int .i64 a, .int .i64 b, .int .i64 c, .slice p1 n1 c1, .slice p2 n2 c2]
set_option maxRecDepth 20000 in
set_option maxHeartbeats 1000000 in
theorem rtGet_ok (gb : Nat) (Φ : World → Int → Int → Int → Option Addr → Nat → Nat → Option Addr → Nat → Nat → World → Prop) (w : World) (hcl : ∀ w1, Below w.heap.size w w1 → Calls Tryz.prog 77 #[.pointer (some ⟨gb, 0, none⟩)] w1 fun e w' => ∃ a b c p1 n1 c1 p2 n2 c2, e = .returned (.agg (rtC a b c p1 n1 c1 p2 n2 c2)) ∧ Φ w1 a b c p1 n1 c1 p2 n2 c2 w' ∧ Below w1.heap.size w1 w') :
    Calls Tryz.prog 76 #[.func (.func 77) #[] #[.pointer (some ⟨gb, 0, none⟩)]] w fun e w' => ∃ a b c p1 n1 c1 p2 n2 c2 w1 w2 w3 GX, e = .returned (.tuple #[.agg (rtC a b c p1 n1 c1 p2 n2 c2), .int .i64 0]) ∧ Φ w1 a b c p1 n1 c1 p2 n2 c2 w2 ∧ Below w.heap.size w w2 ∧ w.heap.size ≤ GX ∧ GX + 2 ≤ w1.heap.size ∧ w1.heap.size ≤ w2.heap.size ∧ w2.grownBy w3 (some GX) ∧ w3.grownBy w' (some (GX + 1)) := by
  have hmf : ∀ (fn : Fn) (first cap : Array Value) (w : World), (Instr.makeFunc fn first cap).run Tryz.prog w = .ok (.func fn first cap) w := fun _ _ _ _ => rfl
  replace hcl := Lib.hid hcl
  go_enter_defers Tryz.func76, Tryz.ntmps76
  go_wp2_with fail
  obtain ⟨GX, hGX⟩ : ∃ GX, GX = w.heap.size := ⟨_, rfl⟩
  rw [← hGX]
  refine calls_at (fun w1 hW => ?_)
  have hb1 : Below w.heap.size w w1 := by rw [hW]; exact ((Below.refl _ _).alloc (Nat.le_refl _) _).alloc (by rw [World.size_alloc]; omega) _
  have kX : Blk w1 GX 28 rtZ := by rw [hW, hGX]; exact (Blk.new _ _ _).alloc _
  have kE : Blk w1 (GX + 1) 31 #[.int .i64 0] := by rw [hW, hGX]; exact blk_at (by simp) (Blk.new _ _ _)
  have hl1 : GX + 2 ≤ w1.heap.size := by rw [hW]; simp [World.size_alloc]; omega
  have lo : w.heap.size ≤ GX := by omega
  clear hW hGX
  replace hb1 := Lib.hid hb1
  refine (hcl.out w1 hb1.out).mono ?_
  rintro e w2 ⟨a, b, c, p1, n1, c1, p2, n2, c2, rfl, hv, hb2⟩
  unfold rtC
  have hs12 := hb2.size
  have kX2 := kX.below hb2
  have kE2 := kE.below hb2
  obtain ⟨x0, x1, x2, x3, x4⟩ : w2.cell? ⟨GX, 0, none⟩ = some (.int .i64 0) ∧ w2.cell? ⟨GX, 1, none⟩ = some (.int .i64 0) ∧ w2.cell? ⟨GX, 2, none⟩ = some (.int .i64 0) ∧ w2.cell? ⟨GX, 3, none⟩ = some (.slice none 0 0) ∧ w2.cell? ⟨GX, 4, none⟩ = some (.slice none 0 0) := ⟨kX2.cell 0, kX2.cell 1, kX2.cell 2, kX2.cell 3, kX2.cell 4⟩
  have y0 := kX2.frozen 0
  have y1 := kX2.frozen 1
  have y2 := kX2.frozen 2
  have y3 := kX2.frozen 3
  have y4 := kX2.frozen 4
  have cE := kE2.cell 0
  have fE := kE2.frozen 0
  have lX := kX2.lt
  have lE := kE2.lt
  simp only [List.getElem?_toArray, List.getElem?_cons_zero] at cE
  replace hb2 := hb1.out.trans (hb2.mono hb1.out.size)
  replace hb2 := Lib.hid hb2
  replace kX2 := Lib.hid kX2
  replace kE2 := Lib.hid kE2
  replace hv := Lib.hid hv
  clear hcl kX kE
  go_wp2_with fail
  refine leaves_cons (f := 137) (args := #[.pointer (some ⟨GX + 1, 0, none⟩), .pointer (some ⟨GX, 0, none⟩)]) (by simp) (by simp [go_sem]) ?_
  refine (rtR_idle (GX + 1) GX _).mono ?_
  rintro e u' w'' ⟨rfl, rfl, rfl⟩
  have key := setRoot w2 GX (.int .i64 a) (.int .i64 b) (.int .i64 c) (.slice p1 n1 c1) (.slice p2 n2 c2) kX2.out
  obtain ⟨k3, hg3⟩ := key
  generalize ((((w2.setCell ⟨GX, 0, none⟩ (.int .i64 a)).setCell ⟨GX, 1, none⟩ (.int .i64 b)).setCell ⟨GX, 2, none⟩ (.int .i64 c)).setCell ⟨GX, 3, none⟩ (.slice p1 n1 c1)).setCell ⟨GX, 4, none⟩ (.slice p2 n2 c2) = w3 at *
  have kE3 := kE2.out.grown hg3 (fun e => by have := Option.some.inj e; omega)
  have hg4 := wgrown_set w3 (GX + 1) 0 (.int .i64 0)
  have k4 := k3.far (p := ⟨GX + 1, 0, none⟩) (by show GX ≠ GX + 1; omega) (.int .i64 0)
  have kE4 := kE3.set_ 0 (.int .i64 0)
  generalize w3.setCell ⟨GX + 1, 0, none⟩ (.int .i64 0) = w4 at *
  simp only [Leaves, settle]
  refine ⟨.tuple #[.agg #[.int .i64 a, .int .i64 b, .int .i64 c, .slice p1 n1 c1, .slice p2 n2 c2], .int .i64 0], ?_, a, b, c, p1, n1, c1, p2, n2, c2, w1, w2, w3, GX, rfl, hv.out, hb2.out, lo, hl1, hs12, hg3, hg4⟩
  obtain ⟨z0, z1, z2, z3, z4⟩ : w4.cell? ⟨GX, 0, none⟩ = some (.int .i64 a) ∧ w4.cell? ⟨GX, 1, none⟩ = some (.int .i64 b) ∧ w4.cell? ⟨GX, 2, none⟩ = some (.int .i64 c) ∧ w4.cell? ⟨GX, 3, none⟩ = some (.slice p1 n1 c1) ∧ w4.cell? ⟨GX, 4, none⟩ = some (.slice p2 n2 c2) := ⟨k4.cell 0, k4.cell 1, k4.cell 2, k4.cell 3, k4.cell 4⟩
  have zE : w4.cell? ⟨GX + 1, 0, none⟩ = some (.int .i64 0) := kE4.cell 0
  simp [results, Tryz.results76, go_sem, z0, z1, z2, z3, z4, zE]
set_option maxRecDepth 20000 in
set_option maxHeartbeats 1000000 in
theorem rtGet_err (gb : Nat) (code : Int) (w : World) (hcl : ∀ w1, Below w.heap.size w w1 → Calls Tryz.prog 77 #[.pointer (some ⟨gb, 0, none⟩)] w1 fun e w' => e = .panicked (errP code) ∧ Below w1.heap.size w1 w') :
    Calls Tryz.prog 76 #[.func (.func 77) #[] #[.pointer (some ⟨gb, 0, none⟩)]] w fun e w' => e = .returned (.tuple #[.agg rtZ, .int .i64 code]) ∧ Below w.heap.size w w' := by
  have hmf : ∀ (fn : Fn) (first cap : Array Value) (w : World), (Instr.makeFunc fn first cap).run Tryz.prog w = .ok (.func fn first cap) w := fun _ _ _ _ => rfl
  replace hcl := Lib.hid hcl
  go_enter_defers Tryz.func76, Tryz.ntmps76
  go_wp2_with fail
  obtain ⟨GX, hGX⟩ : ∃ GX, GX = w.heap.size := ⟨_, rfl⟩
  rw [← hGX]
  refine calls_at (fun w1 hW => ?_)
  have hb1 : Below w.heap.size w w1 := by rw [hW]; exact ((Below.refl _ _).alloc (Nat.le_refl _) _).alloc (by rw [World.size_alloc]; omega) _
  have kX : Blk w1 GX 28 rtZ := by rw [hW, hGX]; exact (Blk.new _ _ _).alloc _
  have kE : Blk w1 (GX + 1) 31 #[.int .i64 0] := by rw [hW, hGX]; exact blk_at (by simp) (Blk.new _ _ _)
  have hl1 : GX + 2 ≤ w1.heap.size := by rw [hW]; simp [World.size_alloc]; omega
  have lo : w.heap.size ≤ GX := by omega
  clear hW hGX
  replace hb1 := Lib.hid hb1
  refine (hcl.out w1 hb1.out).mono ?_
  rintro e w2 ⟨rfl, hb2⟩
  have hs12 := hb2.size
  have kX2 := kX.below hb2
  have kE2 := kE.below hb2
  obtain ⟨x0, x1, x2, x3, x4⟩ : w2.cell? ⟨GX, 0, none⟩ = some (.int .i64 0) ∧ w2.cell? ⟨GX, 1, none⟩ = some (.int .i64 0) ∧ w2.cell? ⟨GX, 2, none⟩ = some (.int .i64 0) ∧ w2.cell? ⟨GX, 3, none⟩ = some (.slice none 0 0) ∧ w2.cell? ⟨GX, 4, none⟩ = some (.slice none 0 0) := ⟨kX2.cell 0, kX2.cell 1, kX2.cell 2, kX2.cell 3, kX2.cell 4⟩
  have y0 := kX2.frozen 0
  have y1 := kX2.frozen 1
  have y2 := kX2.frozen 2
  have y3 := kX2.frozen 3
  have y4 := kX2.frozen 4
  have cE := kE2.cell 0
  have fE := kE2.frozen 0
  have lX := kX2.lt
  have lE := kE2.lt
  simp only [List.getElem?_toArray, List.getElem?_cons_zero] at cE
  replace hb2 := hb1.out.trans (hb2.mono hb1.out.size)
  replace hb2 := Lib.hid hb2
  replace kX2 := Lib.hid kX2
  replace kE2 := Lib.hid kE2
  clear hcl kX kE
  unfold errP
  go_wp2_with fail
  refine leaves_cons (f := 137) (args := #[.pointer (some ⟨GX + 1, 0, none⟩), .pointer (some ⟨GX, 0, none⟩)]) (by simp) (by simp [go_sem]) ?_
  refine (rtR_err w.heap.size (GX + 1) GX code 0 _ _ _ _ _ [] _ cE fE kX2.out (by omega) (by omega) lo lE).mono ?_
  rintro e u' w'' ⟨rfl, rfl, k4, zE, hb4⟩
  simp only [Leaves, settle, List.dropWhile_nil]
  refine ⟨.tuple #[.agg rtZ, .int .i64 code], ?_, rfl, hb2.out.trans hb4⟩
  obtain ⟨z0, z1, z2, z3, z4⟩ : w''.cell? ⟨GX, 0, none⟩ = some (.int .i64 0) ∧ w''.cell? ⟨GX, 1, none⟩ = some (.int .i64 0) ∧ w''.cell? ⟨GX, 2, none⟩ = some (.int .i64 0) ∧ w''.cell? ⟨GX, 3, none⟩ = some (.slice none 0 0) ∧ w''.cell? ⟨GX, 4, none⟩ = some (.slice none 0 0) := ⟨k4.cell 0, k4.cell 1, k4.cell 2, k4.cell 3, k4.cell 4⟩
  simp [results, Tryz.results76, go_sem, z0, z1, z2, z3, z4, zE, rtZ]
set_option maxRecDepth 20000 in
set_option maxHeartbeats 1000000 in
theorem rtSeal_ok (gr gs : Nat) (Φ : World → Int → Int → Int → Option Addr → Nat → Nat → Option Addr → Nat → Nat → World → Prop) (w : World) (hcl : ∀ w1, Below w.heap.size w w1 → Calls Tryz.prog 84 #[.pointer (some ⟨gr, 0, none⟩), .pointer (some ⟨gs, 0, none⟩)] w1 fun e w' => ∃ a b c p1 n1 c1 p2 n2 c2, e = .returned (.agg (rtC a b c p1 n1 c1 p2 n2 c2)) ∧ Φ w1 a b c p1 n1 c1 p2 n2 c2 w' ∧ Below w1.heap.size w1 w') :
    Calls Tryz.prog 76 #[.func (.func 84) #[] #[.pointer (some ⟨gr, 0, none⟩), .pointer (some ⟨gs, 0, none⟩)]] w fun e w' => ∃ a b c p1 n1 c1 p2 n2 c2 w1 w2 w3 GX, e = .returned (.tuple #[.agg (rtC a b c p1 n1 c1 p2 n2 c2), .int .i64 0]) ∧ Φ w1 a b c p1 n1 c1 p2 n2 c2 w2 ∧ Below w.heap.size w w2 ∧ w.heap.size ≤ GX ∧ GX + 2 ≤ w1.heap.size ∧ w1.heap.size ≤ w2.heap.size ∧ w2.grownBy w3 (some GX) ∧ w3.grownBy w' (some (GX + 1)) := by
  have hmf : ∀ (fn : Fn) (first cap : Array Value) (w : World), (Instr.makeFunc fn first cap).run Tryz.prog w = .ok (.func fn first cap) w := fun _ _ _ _ => rfl
  replace hcl := Lib.hid hcl
  go_enter_defers Tryz.func76, Tryz.ntmps76
  go_wp2_with fail
  obtain ⟨GX, hGX⟩ : ∃ GX, GX = w.heap.size := ⟨_, rfl⟩
  rw [← hGX]
  refine calls_at (fun w1 hW => ?_)
  have hb1 : Below w.heap.size w w1 := by rw [hW]; exact ((Below.refl _ _).alloc (Nat.le_refl _) _).alloc (by rw [World.size_alloc]; omega) _
  have kX : Blk w1 GX 28 rtZ := by rw [hW, hGX]; exact (Blk.new _ _ _).alloc _
  have kE : Blk w1 (GX + 1) 31 #[.int .i64 0] := by rw [hW, hGX]; exact blk_at (by simp) (Blk.new _ _ _)
  have hl1 : GX + 2 ≤ w1.heap.size := by rw [hW]; simp [World.size_alloc]; omega
  have lo : w.heap.size ≤ GX := by omega
  clear hW hGX
  replace hb1 := Lib.hid hb1
  refine (hcl.out w1 hb1.out).mono ?_
  rintro e w2 ⟨a, b, c, p1, n1, c1, p2, n2, c2, rfl, hv, hb2⟩
  unfold rtC
  have hs12 := hb2.size
  have kX2 := kX.below hb2
  have kE2 := kE.below hb2
  obtain ⟨x0, x1, x2, x3, x4⟩ : w2.cell? ⟨GX, 0, none⟩ = some (.int .i64 0) ∧ w2.cell? ⟨GX, 1, none⟩ = some (.int .i64 0) ∧ w2.cell? ⟨GX, 2, none⟩ = some (.int .i64 0) ∧ w2.cell? ⟨GX, 3, none⟩ = some (.slice none 0 0) ∧ w2.cell? ⟨GX, 4, none⟩ = some (.slice none 0 0) := ⟨kX2.cell 0, kX2.cell 1, kX2.cell 2, kX2.cell 3, kX2.cell 4⟩
  have y0 := kX2.frozen 0
  have y1 := kX2.frozen 1
  have y2 := kX2.frozen 2
  have y3 := kX2.frozen 3
  have y4 := kX2.frozen 4
  have cE := kE2.cell 0
  have fE := kE2.frozen 0
  have lX := kX2.lt
  have lE := kE2.lt
  simp only [List.getElem?_toArray, List.getElem?_cons_zero] at cE
  replace hb2 := hb1.out.trans (hb2.mono hb1.out.size)
  replace hb2 := Lib.hid hb2
  replace kX2 := Lib.hid kX2
  replace kE2 := Lib.hid kE2
  replace hv := Lib.hid hv
  clear hcl kX kE
  go_wp2_with fail
  refine leaves_cons (f := 137) (args := #[.pointer (some ⟨GX + 1, 0, none⟩), .pointer (some ⟨GX, 0, none⟩)]) (by simp) (by simp [go_sem]) ?_
  refine (rtR_idle (GX + 1) GX _).mono ?_
  rintro e u' w'' ⟨rfl, rfl, rfl⟩
  have key := setRoot w2 GX (.int .i64 a) (.int .i64 b) (.int .i64 c) (.slice p1 n1 c1) (.slice p2 n2 c2) kX2.out
  obtain ⟨k3, hg3⟩ := key
  generalize ((((w2.setCell ⟨GX, 0, none⟩ (.int .i64 a)).setCell ⟨GX, 1, none⟩ (.int .i64 b)).setCell ⟨GX, 2, none⟩ (.int .i64 c)).setCell ⟨GX, 3, none⟩ (.slice p1 n1 c1)).setCell ⟨GX, 4, none⟩ (.slice p2 n2 c2) = w3 at *
  have kE3 := kE2.out.grown hg3 (fun e => by have := Option.some.inj e; omega)
  have hg4 := wgrown_set w3 (GX + 1) 0 (.int .i64 0)
  have k4 := k3.far (p := ⟨GX + 1, 0, none⟩) (by show GX ≠ GX + 1; omega) (.int .i64 0)
  have kE4 := kE3.set_ 0 (.int .i64 0)
  generalize w3.setCell ⟨GX + 1, 0, none⟩ (.int .i64 0) = w4 at *
  simp only [Leaves, settle]
  refine ⟨.tuple #[.agg #[.int .i64 a, .int .i64 b, .int .i64 c, .slice p1 n1 c1, .slice p2 n2 c2], .int .i64 0], ?_, a, b, c, p1, n1, c1, p2, n2, c2, w1, w2, w3, GX, rfl, hv.out, hb2.out, lo, hl1, hs12, hg3, hg4⟩
  obtain ⟨z0, z1, z2, z3, z4⟩ : w4.cell? ⟨GX, 0, none⟩ = some (.int .i64 a) ∧ w4.cell? ⟨GX, 1, none⟩ = some (.int .i64 b) ∧ w4.cell? ⟨GX, 2, none⟩ = some (.int .i64 c) ∧ w4.cell? ⟨GX, 3, none⟩ = some (.slice p1 n1 c1) ∧ w4.cell? ⟨GX, 4, none⟩ = some (.slice p2 n2 c2) := ⟨k4.cell 0, k4.cell 1, k4.cell 2, k4.cell 3, k4.cell 4⟩
  have zE : w4.cell? ⟨GX + 1, 0, none⟩ = some (.int .i64 0) := kE4.cell 0
  simp [results, Tryz.results76, go_sem, z0, z1, z2, z3, z4, zE]
set_option maxRecDepth 20000 in
set_option maxHeartbeats 1000000 in
theorem rtSeal_err (gr gs : Nat) (code : Int) (w : World) (hcl : ∀ w1, Below w.heap.size w w1 → Calls Tryz.prog 84 #[.pointer (some ⟨gr, 0, none⟩), .pointer (some ⟨gs, 0, none⟩)] w1 fun e w' => e = .panicked (errP code) ∧ Below w1.heap.size w1 w') :
    Calls Tryz.prog 76 #[.func (.func 84) #[] #[.pointer (some ⟨gr, 0, none⟩), .pointer (some ⟨gs, 0, none⟩)]] w fun e w' => e = .returned (.tuple #[.agg rtZ, .int .i64 code]) ∧ Below w.heap.size w w' := by
  have hmf : ∀ (fn : Fn) (first cap : Array Value) (w : World), (Instr.makeFunc fn first cap).run Tryz.prog w = .ok (.func fn first cap) w := fun _ _ _ _ => rfl
  replace hcl := Lib.hid hcl
  go_enter_defers Tryz.func76, Tryz.ntmps76
  go_wp2_with fail
  obtain ⟨GX, hGX⟩ : ∃ GX, GX = w.heap.size := ⟨_, rfl⟩
  rw [← hGX]
  refine calls_at (fun w1 hW => ?_)
  have hb1 : Below w.heap.size w w1 := by rw [hW]; exact ((Below.refl _ _).alloc (Nat.le_refl _) _).alloc (by rw [World.size_alloc]; omega) _
  have kX : Blk w1 GX 28 rtZ := by rw [hW, hGX]; exact (Blk.new _ _ _).alloc _
  have kE : Blk w1 (GX + 1) 31 #[.int .i64 0] := by rw [hW, hGX]; exact blk_at (by simp) (Blk.new _ _ _)
  have hl1 : GX + 2 ≤ w1.heap.size := by rw [hW]; simp [World.size_alloc]; omega
  have lo : w.heap.size ≤ GX := by omega
  clear hW hGX
  replace hb1 := Lib.hid hb1
  refine (hcl.out w1 hb1.out).mono ?_
  rintro e w2 ⟨rfl, hb2⟩
  have hs12 := hb2.size
  have kX2 := kX.below hb2
  have kE2 := kE.below hb2
  obtain ⟨x0, x1, x2, x3, x4⟩ : w2.cell? ⟨GX, 0, none⟩ = some (.int .i64 0) ∧ w2.cell? ⟨GX, 1, none⟩ = some (.int .i64 0) ∧ w2.cell? ⟨GX, 2, none⟩ = some (.int .i64 0) ∧ w2.cell? ⟨GX, 3, none⟩ = some (.slice none 0 0) ∧ w2.cell? ⟨GX, 4, none⟩ = some (.slice none 0 0) := ⟨kX2.cell 0, kX2.cell 1, kX2.cell 2, kX2.cell 3, kX2.cell 4⟩
  have y0 := kX2.frozen 0
  have y1 := kX2.frozen 1
  have y2 := kX2.frozen 2
  have y3 := kX2.frozen 3
  have y4 := kX2.frozen 4
  have cE := kE2.cell 0
  have fE := kE2.frozen 0
  have lX := kX2.lt
  have lE := kE2.lt
  simp only [List.getElem?_toArray, List.getElem?_cons_zero] at cE
  replace hb2 := hb1.out.trans (hb2.mono hb1.out.size)
  replace hb2 := Lib.hid hb2
  replace kX2 := Lib.hid kX2
  replace kE2 := Lib.hid kE2
  clear hcl kX kE
  unfold errP
  go_wp2_with fail
  refine leaves_cons (f := 137) (args := #[.pointer (some ⟨GX + 1, 0, none⟩), .pointer (some ⟨GX, 0, none⟩)]) (by simp) (by simp [go_sem]) ?_
  refine (rtR_err w.heap.size (GX + 1) GX code 0 _ _ _ _ _ [] _ cE fE kX2.out (by omega) (by omega) lo lE).mono ?_
  rintro e u' w'' ⟨rfl, rfl, k4, zE, hb4⟩
  simp only [Leaves, settle, List.dropWhile_nil]
  refine ⟨.tuple #[.agg rtZ, .int .i64 code], ?_, rfl, hb2.out.trans hb4⟩
  obtain ⟨z0, z1, z2, z3, z4⟩ : w''.cell? ⟨GX, 0, none⟩ = some (.int .i64 0) ∧ w''.cell? ⟨GX, 1, none⟩ = some (.int .i64 0) ∧ w''.cell? ⟨GX, 2, none⟩ = some (.int .i64 0) ∧ w''.cell? ⟨GX, 3, none⟩ = some (.slice none 0 0) ∧ w''.cell? ⟨GX, 4, none⟩ = some (.slice none 0 0) := ⟨k4.cell 0, k4.cell 1, k4.cell 2, k4.cell 3, k4.cell 4⟩
  simp [results, Tryz.results76, go_sem, z0, z1, z2, z3, z4, zE, rtZ]
end Go.Proofs.YtgjffaoggjlamaaGreatDoor

namespace Go.Proofs.YtgjffaoggjlamaaGreatDoor
open Go Go.RowKit
/-- is a root of right shape? -/
def shT (r h q : Int) (n : Nat) : Bool := decide (1 ≤ r) && (decide (r ≤ 7) && (decide (0 ≤ h) && (decide (h < 4) && (decide (1 ≤ q) && (decide (q ≤ 1073741824) && decide (n = 64))))))
theorem shT_true {r h q : Int} {n : Nat} (e : shT r h q n = true) : 1 ≤ r ∧ r ≤ 7 ∧ 0 ≤ h ∧ h < 4 ∧ 1 ≤ q ∧ q ≤ 1073741824 ∧ n = 64 := by simpa [shT] using e
set_option maxRecDepth 20000 in
set_option maxHeartbeats 4000000 in
theorem rshape_c (r h q : Int) (p1 : Option Addr) (n1 c1 : Nat) (p2 : Option Addr) (n2 c2 : Nat) (w : World) :
    Calls Tryz.prog 85 #[.agg #[.int .i64 r, .int .i64 h, .int .i64 q, .slice p1 n1 c1, .slice p2 n2 c2]] w fun e w' => e = .returned (.bool (shT r h q n1)) ∧ Below w.heap.size w w' := by
  obtain ⟨E, hE⟩ : ∃ E, E = shT r h q n1 := ⟨_, rfl⟩
  rw [← hE]
  unfold shT at hE
  replace hE := Lib.hid hE
  have hb0 := Lib.hid (show Below w.heap.size w (w.alloc (.cells #[.int .i64 r, .int .i64 h, .int .i64 q, .slice p1 n1 c1, .slice p2 n2 c2] 101)) from (Below.refl _ _).alloc (Nat.le_refl _) _)
  go_enter Tryz.func85, Tryz.ntmps85
  by_cases h1 : 1 ≤ r
  · by_cases h2 : r ≤ 7
    · by_cases h3 : 0 ≤ h
      · by_cases h4 : h < 4
        · by_cases h5 : 1 ≤ q
          · by_cases h6 : q ≤ 1073741824
            · by_cases h7 : n1 = 64
              · subst h7
                have hf := Lib.hid (show E = true by rw [hE.out]; simp [h1, h2, h3, h4, h5, h6])
                clear hE
                go_wp2
                go_returns
                exact ⟨by rw [hf.out]; rfl, hb0.out⟩
              · have hf := Lib.hid (show E = false by rw [hE.out]; simp [h7])
                have h8 : ((n1 : Int) == 64) = false := by simp; omega
                clear hE
                go_wp2
                go_returns
                exact ⟨by rw [hf.out]; rfl, hb0.out⟩
            · have hf := Lib.hid (show E = false by rw [hE.out]; simp [h6])
              clear hE
              go_wp2
              go_returns
              exact ⟨by rw [hf.out]; rfl, hb0.out⟩
          · have hf := Lib.hid (show E = false by rw [hE.out]; simp [h5])
            clear hE
            go_wp2
            go_returns
            exact ⟨by rw [hf.out]; rfl, hb0.out⟩
        · have hf := Lib.hid (show E = false by rw [hE.out]; simp [h4])
          clear hE
          go_wp2
          go_returns
          exact ⟨by rw [hf.out]; rfl, hb0.out⟩
      · have hf := Lib.hid (show E = false by rw [hE.out]; simp [h3])
        clear hE
        go_wp2
        go_returns
        exact ⟨by rw [hf.out]; rfl, hb0.out⟩
    · have hf := Lib.hid (show E = false by rw [hE.out]; simp [h2])
      clear hE
      go_wp2
      go_returns
      exact ⟨by rw [hf.out]; rfl, hb0.out⟩
  · have hf := Lib.hid (show E = false by rw [hE.out]; simp [h1])
    clear hE
    go_wp2
    go_returns
    exact ⟨by rw [hf.out]; rfl, hb0.out⟩
/-- the bytes of three numbers -/
def num3 (r h q : Int) (j : Nat) : Int := nb (if j < 8 then r else if j < 16 then h else q) (j % 8)
def pick3 (r h q : Int) (k : Nat) : Int := if k < 1 then r else if k < 2 then h else q
theorem num3_at (r h q : Int) (k j : Nat) (hk : k < 3) (hj : j < 8) : num3 r h q (8 * k + j) = nb (pick3 r h q k) j := by
  unfold num3 pick3
  have : k = 0 ∨ k = 1 ∨ k = 2 := by omega
  rcases this with rfl | rfl | rfl
  · rw [if_pos (by omega), if_pos (by decide), show (8 * 0 + j) % 8 = j by omega]
  · rw [if_neg (by omega), if_pos (by omega), if_neg (by decide), if_pos (by decide), show (8 * 1 + j) % 8 = j by omega]
  · rw [if_neg (by omega), if_neg (by omega), if_neg (by decide), if_neg (by decide), show (8 * 2 + j) % 8 = j by omega]
set_option maxRecDepth 20000 in
set_option maxHeartbeats 2000000 in
theorem nums_c (g : Nat) (r h q : Int) (hr : 0 ≤ r ∧ r < 4611686018427387904) (hh : 0 ≤ h ∧ h < 4611686018427387904) (hq : 0 ≤ q ∧ q < 4611686018427387904) (w : World) (hB : Blk w g 3 #[.int .i64 r, .int .i64 h, .int .i64 q]) : Calls Tryz.prog 132 #[.slice (some ⟨g, 0, none⟩) 3 3] w (PostBs 24 (num3 r h q) w) := by
  obtain ⟨F, hF⟩ : ∃ F, F = pick3 r h q := ⟨_, rfl⟩
  have hFb : ∀ k, 0 ≤ F k ∧ F k < 4611686018427387904 := fun k => by
    rw [hF]
    unfold pick3
    split
    · exact hr
    split
    · exact hh
    · exact hq
  have hFc : ∀ k, k < 3 → w.cell? ⟨g, k, none⟩ = some (.int .i64 (F k)) := fun k hk => by
    rw [hF, hB.cell k]
    have : k = 0 ∨ k = 1 ∨ k = 2 := by omega
    rcases this with rfl | rfl | rfl <;> rfl
  have hTa := fun k j (hk : k < 3) (hj : j < 8) => num3_at r h q k j hk hj
  rw [← hF] at hTa
  obtain ⟨T, hT⟩ : ∃ T, T = num3 r h q := ⟨_, rfl⟩
  rw [← hT] at hTa ⊢
  have hgl := hB.lt
  replace hFb := Lib.hid hFb
  replace hFc := Lib.hid hFc
  replace hTa := Lib.hid hTa
  clear hF hT hr hh hq hB
  go_enter Tryz.func132, Tryz.ntmps132
  go_wp2
  go_loopw [3, 5, 8] (fun v _ i wr => ∃ k : Nat, k ≤ 3 ∧ i = .int .i64 k ∧ wr.ownsRow w.heap.size 5 1 v (8 * k) (cB (8 * k) (fun j => T (0 + j))) ∧ Below w.heap.size w wr) (fun _ _ i _ => (3 - intOf i).toNat)
  case atStart => exact ⟨0, by omega, rfl, ⟨rfl, .inl ⟨rfl, rfl⟩⟩, Below.refl _ _⟩
  case round =>
    obtain ⟨k, hk, hi, hown, hb⟩ := hrel
    subst hi
    by_cases he : k = 3
    · subst he
      obtain ⟨g1, c1, e1, hg1, hR1⟩ := own_rowB hown (by decide)
      have hP := Lib.hid (show PostBs 24 T w (.returned u3) wr from ⟨g1, c1, by rw [e1], hg1, hR1.congr (fun j _ => by rw [Nat.zero_add]), hb⟩)
      clear hown hk e1 hR1 hb
      go_wp2
      go_returns
      exact hP.out
    · have hk0 : (0 : Int) ≤ (k : Int) := by omega
      have hk1 : (k : Int) < 3 := by omega
      have hk2 : k < 3 := by omega
      have c1 : wr.cell? ⟨g, k, none⟩ = some (.int .i64 (F k)) := (hb.cell (p := ⟨g, k, none⟩) hgl).trans (hFc.out k hk2)
      have hnum := Lib.hid (wnum_c (F k) (hFb.out k).1 (hFb.out k).2 wr)
      have hs := hb.size
      replace hown := Lib.hid hown
      have hb2 := Lib.hid hb
      clear he hk hb
      go_wp2_with fail
      refine hnum.out.mono ?_
      rintro e w2 ⟨g2, c2, rfl, hg2, hR2, hb3⟩
      have hown2 := Lib.hid (own_ext1 hown.out (Ext.below (S := []) hb3) (fun _ _ => by simp))
      have hX : BAt w2 (some ⟨g2, 0, none⟩) 8 (fun j => T (0 + 8 * k + j)) := fun _ => ⟨g2, 0, rfl, hR2.lt, fun j hj => by
        rw [Nat.zero_add, hR2.cell j hj, Nat.zero_add]
        exact congrArg (fun z => some (Value.int .u8 z)) (hTa.out k j hk2 hj).symm⟩
      replace hX := Lib.hid hX
      have hb4 := Lib.hid (hb2.out.trans (hb3.mono hs))
      have hs2 := hb4.out.size
      clear hnum hown hb2 hb3 hR2
      go_wp2_with (at_builtin; refine wpList_appOB rfl rfl rfl hown2.out rfl hX.out (by omega) hs2 ?_; intro v' w3 hO hgr _)
      have hb5 : Below w.heap.size w w3 := hb4.out.grown hgr hs2 (fun x hx => (hown2.out.lt x hx).1)
      replace hO := Lib.hid hO
      replace hb5 := Lib.hid hb5
      clear hown2 hX hb4 hgr
      go_wp2_with fail
      exact ⟨⟨k + 1, by omega, by simp, by rw [Nat.mul_succ]; exact hO.out, hb5.out⟩, by simp [intOf]; omega⟩
end Go.Proofs.YtgjffaoggjlamaaGreatDoor
