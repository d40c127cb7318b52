/- The walks of slices.Clone (dots, bytes), ownRecord, ownRoot. -/
import Derived.Test.YtdgaoljobpneaaaHc
namespace Go.Proofs.Ytdgaoljobpneaaa
open Go.RowKit
theorem eqnilD_none (n c : Nat) (w : World) : (binOp .eql 22 (.slice none n c) (.slice none 0 0)).run Try.prog w = .ok (.bool true) w := by kernel_rfl
theorem eqnilD_some (ad : Addr) (n c : Nat) (w : World) : (binOp .eql 22 (.slice (some ad) n c) (.slice none 0 0)).run Try.prog w = .ok (.bool false) w := by kernel_rfl
theorem eqnilB_none (n c : Nat) (w : World) : (binOp .eql 23 (.slice none n c) (.slice none 0 0)).run Try.prog w = .ok (.bool true) w := by kernel_rfl
theorem eqnilB_some (ad : Addr) (n c : Nat) (w : World) : (binOp .eql 23 (.slice (some ad) n c) (.slice none 0 0)).run Try.prog w = .ok (.bool false) w := by kernel_rfl
/-- a copy of dots, in new memory -/
def PostCl (n : Nat) (ds : List Int) (w : World) (e : Ending) (w' : World) : Prop := ∃ p c, e = .returned (.slice p n c) ∧ w'.ownsRow w.heap.size 86 2 (.slice p n c) n (dotL ds) ∧ Below w.heap.size w w'
def PostClB (xs : List Int) (w : World) (e : Ending) (w' : World) : Prop := ∃ p c, e = .returned (.slice p xs.length c) ∧ w'.ownsRow w.heap.size 5 1 (.slice p xs.length c) xs.length (bL xs) ∧ Below w.heap.size w w'
theorem own_sl {w : World} {B : Nat} {e : TypeId} {size : Nat} {v : Value} {n : Nat} {xs : List Value} (h : w.ownsRow B e size v n xs) : ∃ p c, v = .slice p n c := by
  rcases h.2 with ⟨rfl, rfl⟩ | ⟨g, cap, cur, rfl, _⟩
  · exact ⟨_, _, rfl⟩
  · exact ⟨_, _, rfl⟩
set_option maxRecDepth 20000 in
set_option maxHeartbeats 2000000 in
theorem cloneD_c (p : Option Addr) (n c : Nat) (ds : List Int) (hn : n ≤ 1000000) (w : World) (hD : DotsL w p n ds) :
    Calls Try.prog 74 #[.slice p n c] w (PostCl n ds w) := by
  cases p with
  | none =>
    have h0 : n = 0 := by
      rcases Nat.eq_zero_or_pos n with h | h
      · exact h
      · obtain ⟨_, _, e, _⟩ := hD.2 (by omega)
        cases e
    have hl := hD.1
    subst h0
    have hP : PostCl 0 ds w (.returned (.slice none 0 0)) w := ⟨_, _, rfl, ⟨by rw [dotL_len]; omega, .inl ⟨rfl, rfl⟩⟩, Below.refl _ _⟩
    replace hP := Lib.hid hP
    clear hl hD
    have he := eqnilD_none 0 c
    go_enter Try.func74, Try.ntmps74
    go_wp2
    go_returns
    exact hP.out
  | some ad =>
    have hD2 := hD.below (w' := w.alloc (.cells #[] 86)) ((Below.refl _ _).alloc (Nat.le_refl _) _)
    have ho : (w.alloc (.cells #[] 86)).ownsRow w.heap.size 86 2 (.slice (some ⟨w.heap.size, 0, none⟩) 0 0) 0 (dotL []) := ⟨rfl, .inr ⟨w.heap.size, 0, #[], rfl, Nat.le_refl _, heap_alloc_new w _, Nat.le_refl _, Nat.zero_le _, rfl, rfl⟩⟩
    replace hD2 := Lib.hid hD2
    replace ho := Lib.hid ho
    clear hD
    have he := eqnilD_some ad n c
    go_enter Try.func74, Try.ntmps74
    go_wp2_with (at_builtin; refine wpList_appD2 rfl rfl rfl ho.out rfl hD2.out (by omega) (by simp) ?_; intro v' w4 ho4 hg4 _; rw [Nat.zero_add, List.nil_append] at ho4; obtain ⟨p4, c4, rfl⟩ := own_sl ho4; have hP := Lib.hid (show PostCl n ds w (.returned (.slice p4 n c4)) w4 from ⟨p4, c4, rfl, ho4, ((Below.refl w.heap.size w).alloc (Nat.le_refl _) _).grown hg4 (by simp) (fun k hk => by have h9 : w.heap.size = k := Option.some.inj hk; omega)⟩); clear ho4 hg4)
    go_returns
    exact hP.out
set_option maxRecDepth 20000 in
set_option maxHeartbeats 2000000 in
theorem cloneB_c (p : Option Addr) (n c : Nat) (xs : List Int) (hl : n = xs.length) (hn : n ≤ 1000000) (w : World) (hX : BytesL w p xs) :
    Calls Try.prog 61 #[.slice p n c] w (PostClB xs w) := by
  cases p with
  | none =>
    have h0 : xs = [] := by
      rcases Nat.eq_zero_or_pos xs.length with h | h
      · exact List.eq_nil_of_length_eq_zero h
      · obtain ⟨_, _, e, _⟩ := hX h
        cases e
    subst h0
    subst hl
    have hP : PostClB [] w (.returned (.slice none 0 0)) w := ⟨_, _, rfl, ⟨rfl, .inl ⟨rfl, rfl⟩⟩, Below.refl _ _⟩
    replace hP := Lib.hid hP
    clear hX hn
    have he := eqnilB_none 0 c
    go_enter Try.func61, Try.ntmps61
    go_wp2
    go_returns
    exact hP.out
  | some ad =>
    have hX2 := hX.below (w' := w.alloc (.cells #[] 5)) ((Below.refl _ _).alloc (Nat.le_refl _) _)
    have ho : (w.alloc (.cells #[] 5)).ownsRow w.heap.size 5 1 (.slice (some ⟨w.heap.size, 0, none⟩) 0 0) 0 (bL []) := ⟨rfl, .inr ⟨w.heap.size, 0, #[], rfl, Nat.le_refl _, heap_alloc_new w _, Nat.le_refl _, Nat.zero_le _, rfl, rfl⟩⟩
    replace hX2 := Lib.hid hX2
    replace ho := Lib.hid ho
    replace hl := Lib.hid hl
    clear hX
    have he := eqnilB_some ad n c
    go_enter Try.func61, Try.ntmps61
    go_wp2_with (at_builtin; refine wpList_appB rfl rfl rfl ho.out rfl hl.out hX2.out (by omega) (by simp) ?_; intro v' w4 ho4 hg4 _; rw [Nat.zero_add, List.nil_append, hl.out] at ho4; obtain ⟨p4, c4, rfl⟩ := own_sl ho4; have hP := Lib.hid (show PostClB xs w (.returned (.slice p4 xs.length c4)) w4 from ⟨p4, c4, rfl, ho4, ((Below.refl w.heap.size w).alloc (Nat.le_refl _) _).grown hg4 (by simp) (fun k hk => by have h9 : w.heap.size = k := Option.some.inj hk; omega)⟩); clear ho4 hg4)
    go_returns
    exact hP.out
end Go.Proofs.Ytdgaoljobpneaaa
