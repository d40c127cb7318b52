/- The walks of root's numbers, shape, text, Text. -/
import Derived.Test.YtdgaoljobpneaaaHa
namespace Go.Proofs.Ytdgaoljobpneaaa
open Go.RowKit
/-- numbers' bytes -/
def numsL (xs : List Int) (k : Nat) : List Int := ((xs.take k).map numL).flatten
theorem numsL_len (xs : List Int) (k : Nat) : (numsL xs k).length ≤ 8 * k := by
  unfold numsL
  induction k generalizing xs with
  | zero => simp
  | succ k ih =>
    cases xs with
    | nil => simp
    | cons x xs =>
      have := ih xs
      simp only [List.take_succ_cons, List.map_cons, List.flatten_cons, List.length_append, numL_len]
      omega
theorem numsL_step (xs : List Int) (k : Nat) (h : k < xs.length) : numsL xs (k + 1) = numsL xs k ++ numL (xs.getD k 0) := by
  unfold numsL
  rw [List.take_succ_eq_append_getElem h, List.map_append, List.flatten_append]
  simp [List.getD_eq_getElem?_getD, h]
set_option maxRecDepth 20000 in
set_option maxHeartbeats 4000000 in
theorem numbers_o (p : Option Addr) (n c : Nat) (xs : List Int) (hn : n = xs.length) (hn2 : n ≤ 1000) (hx : ∀ i, i < n → 0 ≤ xs.getD i 0 ∧ xs.getD i 0 < 4611686018427387904) (w : World) (hX : RowAt w p n (fun j => .int .i64 (xs.getD j 0))) :
    Calls Try.prog 81 #[.slice p n c] w (PostO (numsL xs n) w) := by
  obtain ⟨T, hTe⟩ : ∃ T, T = numsL xs := ⟨_, rfl⟩
  have hT0 : T 0 = [] := by rw [hTe]; rfl
  have hTl : ∀ k, (T k).length ≤ 8 * k := by rw [hTe]; exact numsL_len xs
  obtain ⟨F, hF⟩ : ∃ F : Nat → Int, F = fun i => xs.getD i 0 := ⟨_, rfl⟩
  have hTs : ∀ k, k < n → T (k + 1) = T k ++ numL (F k) := fun k hk => by rw [hTe, hF]; exact numsL_step xs k (by omega)
  replace hX : RowAt w p n (fun j => .int .i64 (F j)) := by rw [hF]; exact hX
  replace hx : ∀ i, i < n → 0 ≤ F i ∧ F i < 4611686018427387904 := by rw [hF]; exact hx
  rw [← hTe]
  clear hTe hF hn
  replace hT0 := Lib.hid hT0
  replace hTl := Lib.hid hTl
  replace hTs := Lib.hid hTs
  replace hX := Lib.hid hX
  replace hx := Lib.hid hx
  go_enter Try.func81, Try.ntmps81
  go_wp2
  go_loopw [3, 8] (fun v i wr => ∃ k : Nat, k ≤ n ∧ i = .int .i64 k ∧ wr.ownsRow w.heap.size 5 1 v (T k).length (bL (T k)) ∧ Below w.heap.size w wr) (fun _ i _ => (n - intOf i).toNat)
  case atStart => exact ⟨0, by omega, rfl, by rw [hT0.out]; exact ownB_nil, Below.refl _ _⟩
  case round =>
    obtain ⟨k, hk, hi, hown, hb⟩ := hrel
    subst hi
    by_cases he : k = n
    · subst he
      have hpo := Lib.hid (show PostO (T k) w (.returned u3) wr from ⟨_, _, rfl, hown, hb⟩)
      clear hown hk
      go_wp2
      go_returns
      exact hpo.out
    · have hk0 : (0 : Int) ≤ (k : Int) := by omega
      have hk1 : (k : Int) < (n : Int) := by omega
      have hk2 : k < n := by omega
      obtain ⟨g, o, rfl, hg, hc⟩ := hX.out (by omega)
      have hc1 : wr.cell? ⟨g, o + k, none⟩ = some (.int .i64 (F k)) := (hb.cell (p := ⟨g, o + k, none⟩) hg).trans (hc k hk2)
      have hbs := hb.size
      have hnx := hTs.out k hk2
      have hl0 := hTl.out k
      obtain ⟨hx0, hx1⟩ := hx.out k hk2
      have hlen : (T (k + 1)).length = (T k).length + 8 := by rw [hnx, List.length_append, numL_len]
      clear he hc
      replace hown := Lib.hid hown
      replace hlen := Lib.hid hlen
      replace hnx := Lib.hid hnx
      generalize F k = x at *
      have hmc := number_c x hx0 hx1
      have hL8 := numL_len x
      generalize numL x = L at *
      replace hmc := Lib.hid hmc
      clear hx0 hx1
      go_wp2_with fail
      refine (hmc.out _).mono ?_
      rintro e w1 ⟨q, m, c2, rfl, hm, hR, hb1, -⟩
      have hown1 := Lib.hid (below_kept hown.out hb1)
      have hb2 := hb.trans (hb1.mono hbs)
      have hbs1 := hb2.size
      replace hm := Lib.hid hm
      replace hR := Lib.hid hR
      have hl3 : (T k).length + m ≤ 1000000000 := by rw [hm.out, hL8]; omega
      clear hmc hown hb1 hc1 hL8
      go_wp2_with (refine wpList_appB rfl rfl rfl hown1.out rfl hm.out hR.out hl3 hbs1 ?_; intro v' w2 hown2 hgr hat; have hb3 := hb2.grown hgr hbs1 (fun g h => (hown1.out.lt g h).1); replace hown2 := Lib.hid hown2; clear hgr hat)
      refine ⟨⟨k + 1, by omega, rfl, ?_, hb3⟩, by simp [intOf]; omega⟩
      rw [hnx.out, List.length_append, ← hm.out]
      exact hown2.out
/-- is a root of right shape? -/
def shT (r h q : Int) (n : Nat) : Bool := decide (1 ≤ r) && (decide (r ≤ 7) && (decide (0 ≤ h) && (decide (h < 4) && (decide (1 ≤ q) && (decide (q ≤ 1073741824) && decide (n = 64))))))
theorem shT_true {r h q : Int} {n : Nat} (e : shT r h q n = true) : 1 ≤ r ∧ r ≤ 7 ∧ 0 ≤ h ∧ h < 4 ∧ 1 ≤ q ∧ q ≤ 1073741824 ∧ n = 64 := by simpa [shT] using e
set_option maxRecDepth 20000 in
set_option maxHeartbeats 4000000 in
theorem shape_c (r h q : Int) (p1 : Option Addr) (n1 c1 : Nat) (p2 : Option Addr) (n2 c2 : Nat) (w : World) :
    Calls Try.prog 48 #[.agg #[.int .i64 r, .int .i64 h, .int .i64 q, .slice p1 n1 c1, .slice p2 n2 c2]] w fun e w' => e = .returned (.bool (shT r h q n1)) ∧ Below w.heap.size w w' := by
  obtain ⟨E, hE⟩ : ∃ E, E = shT r h q n1 := ⟨_, rfl⟩
  rw [← hE]
  unfold shT at hE
  replace hE := Lib.hid hE
  have hb0 := Lib.hid (show Below w.heap.size w (w.alloc (.cells #[.int .i64 r, .int .i64 h, .int .i64 q, .slice p1 n1 c1, .slice p2 n2 c2] 83)) from (Below.refl _ _).alloc (Nat.le_refl _) _)
  go_enter Try.func48, Try.ntmps48
  by_cases h1 : 1 ≤ r
  · by_cases h2 : r ≤ 7
    · by_cases h3 : 0 ≤ h
      · by_cases h4 : h < 4
        · by_cases h5 : 1 ≤ q
          · by_cases h6 : q ≤ 1073741824
            · by_cases h7 : n1 = 64
              · subst h7
                have hf := Lib.hid (show E = true by rw [hE.out]; simp [h1, h2, h3, h4, h5, h6])
                clear hE
                go_wp2
                go_returns
                exact ⟨by rw [hf.out]; rfl, hb0.out⟩
              · have hf := Lib.hid (show E = false by rw [hE.out]; simp [h7])
                have h8 : ((n1 : Int) == 64) = false := by simp; omega
                clear hE
                go_wp2
                go_returns
                exact ⟨by rw [hf.out]; rfl, hb0.out⟩
            · have hf := Lib.hid (show E = false by rw [hE.out]; simp [h6])
              clear hE
              go_wp2
              go_returns
              exact ⟨by rw [hf.out]; rfl, hb0.out⟩
          · have hf := Lib.hid (show E = false by rw [hE.out]; simp [h5])
            clear hE
            go_wp2
            go_returns
            exact ⟨by rw [hf.out]; rfl, hb0.out⟩
        · have hf := Lib.hid (show E = false by rw [hE.out]; simp [h4])
          clear hE
          go_wp2
          go_returns
          exact ⟨by rw [hf.out]; rfl, hb0.out⟩
      · have hf := Lib.hid (show E = false by rw [hE.out]; simp [h3])
        clear hE
        go_wp2
        go_returns
        exact ⟨by rw [hf.out]; rfl, hb0.out⟩
    · have hf := Lib.hid (show E = false by rw [hE.out]; simp [h2])
      clear hE
      go_wp2
      go_returns
      exact ⟨by rw [hf.out]; rfl, hb0.out⟩
  · have hf := Lib.hid (show E = false by rw [hE.out]; simp [h1])
    clear hE
    go_wp2
    go_returns
    exact ⟨by rw [hf.out]; rfl, hb0.out⟩
end Go.Proofs.Ytdgaoljobpneaaa
