/- The walks of the reference's Join and Add. -/
import Derived.Test.YtofgkfdfondajaaGreatRf
import Derived.Test.YtofgkfdfondajaaGreatRr
import Derived.Test.YtofgkfdfondajaaGreatDl
namespace Go.Proofs.YtofgkfdfondajaaGreat
open Go.RowKit
/-- the greatest of what n rows say of a client -/
def mostV (N : Nat → Nat) (L : Nat → List Int) : Nat → Int → Int
  | 0, _ => 0
  | i + 1, q => max (mostV N L i q) (upD (N i) (lD (L i)) q)
theorem mostV_nn (N : Nat → Nat) (L : Nat → List Int) : ∀ n q, 0 ≤ mostV N L n q
  | 0, _ => Int.le_refl _
  | n + 1, q => by have := mostV_nn N L n q; simp only [mostV]; omega
theorem joinV_most {N : Nat → Nat} {L : Nat → List Int} : ∀ {n : Nat}, (∀ i, i < n → RightD (N i) (lD (L i))) → ∀ q, joinV N L n q = mostV N L n q
  | 0, _, _ => rfl
  | n + 1, h, q => by
    have ih := joinV_most (n := n) (fun i hi => h i (by omega))
    simp only [joinV, mostV]
    rw [ups_right (fun q => by rw [ih]; exact mostV_nn N L n q) (h n (by omega)), ih, upD_val (h n (by omega))]
theorem valD_range {n : Nat} {D : Nat → Int} (h : RightD n D) (q : Int) : valD n D q ≤ 1073741824 ∧ (q < 1 ∨ 8 < q → valD n D q = 0) := by
  rcases valD_cases (D := D) (c := q) (n := n) with ⟨h1, _⟩ | ⟨i, hi, e, h1⟩
  · rw [h1]; exact ⟨by decide, fun _ => rfl⟩
  · have := h.pos hi
    rw [h1]
    exact ⟨by omega, fun hq => by omega⟩
theorem mostV_range {N : Nat → Nat} {L : Nat → List Int} : ∀ {n : Nat}, (∀ i, i < n → RightD (N i) (lD (L i))) → ∀ q, mostV N L n q ≤ 1073741824 ∧ (q < 1 ∨ 8 < q → mostV N L n q = 0)
  | 0, _, _ => ⟨by simp only [mostV]; decide, fun _ => rfl⟩
  | n + 1, h, q => by
    have ih := mostV_range (n := n) (fun i hi => h i (by omega)) q
    have h2 := valD_range (h n (by omega)) q
    simp only [mostV]
    rw [upD_val (h n (by omega))]
    exact ⟨by omega, fun hq => by rw [ih.2 hq, h2.2 hq]; rfl⟩
theorem insL_end {ds : List Int} {n : Nat} (c s : Int) (hl : ds.length = 2 * n) : insL ds n c s = ds ++ [c, s] := by
  unfold insL
  rw [List.take_of_length_le (by omega), List.drop_eq_nil_of_le (by omega), List.append_nil]
/-- what is out behind clients 1 to c: own dots that say M of them -/
def RjS (B : Nat) (M : Int → Int) (c : Int) (v : Value) (w : World) : Prop := ∃ m ds, w.ownsRow B 35 2 v m (dotL ds) ∧ RightD m (lD ds) ∧ (∀ i, i < m → lD ds (i * 2) ≤ c) ∧ ∀ q, valD m (lD ds) q = if 1 ≤ q ∧ q ≤ c then M q else 0
theorem RjS.below {B : Nat} {M : Int → Int} {c : Int} {v : Value} {w w' : World} (h : RjS B M c v w) (hb : Below w.heap.size w w') : RjS B M c v w' := by
  obtain ⟨m, ds, h1, h2⟩ := h
  exact ⟨m, ds, below_kept h1 hb, h2⟩
theorem RjS.skip {B : Nat} {M : Int → Int} {c : Int} {v : Value} {w : World} (h : RjS B M c v w) (hc : 0 ≤ c) (hz : M (c + 1) = 0) : RjS B M (c + 1) v w := by
  obtain ⟨m, ds, h1, h2, h3, h4⟩ := h
  refine ⟨m, ds, h1, h2, fun i hi => by have := h3 i hi; omega, fun q => ?_⟩
  rw [h4]
  by_cases e : q = c + 1
  · rw [e, if_neg (by omega), if_pos (by omega), hz]
  · by_cases e2 : 1 ≤ q ∧ q ≤ c
    · rw [if_pos e2, if_pos (by omega)]
    · rw [if_neg e2, if_neg (by omega)]
theorem rj_put {m : Nat} {ds : List Int} {M : Int → Int} {c : Int} (hl : ds.length = 2 * m) (h2 : RightD m (lD ds)) (h3 : ∀ i, i < m → lD ds (i * 2) ≤ c) (h4 : ∀ q, valD m (lD ds) q = if 1 ≤ q ∧ q ≤ c then M q else 0) (hc : 0 ≤ c ∧ c + 1 ≤ 8) (hM : 0 < M (c + 1) ∧ M (c + 1) ≤ 1073741824) :
    RightD (m + 1) (lD (ds ++ [c + 1, M (c + 1)])) ∧ (∀ i, i < m + 1 → lD (ds ++ [c + 1, M (c + 1)]) (i * 2) ≤ c + 1) ∧ ∀ q, valD (m + 1) (lD (ds ++ [c + 1, M (c + 1)])) q = if 1 ≤ q ∧ q ≤ c + 1 then M q else 0 := by
  rw [← insL_end _ _ hl]
  have hok : okD (c + 1) (M (c + 1)) = true := decide_eq_true (by omega)
  have hlo : ∀ i, i < m → lD ds (i * 2) < c + 1 := fun i hi => by have := h3 i hi; omega
  have hhi : ∀ i, m ≤ i → i < m → c + 1 < lD ds (i * 2) := fun i h h' => by omega
  refine ⟨right_ins hl (Nat.le_refl _) h2 hok hlo hhi, fun i hi => ?_, fun q => ?_⟩
  · by_cases e : i = m
    · rw [e, (ins_c _ _ hl (Nat.le_refl _)).1]; exact Int.le_refl _
    · rw [ins_lo _ _ hl (Nat.le_refl _) (by omega)]
      have := h3 i (by omega); omega
  · rw [val_ins hl (Nat.le_refl _) h2 hok hlo hhi, h4]
    by_cases e : q = c + 1
    · rw [if_pos e, if_pos (by omega), e]
    · rw [if_neg e]
      by_cases e2 : 1 ≤ q ∧ q ≤ c
      · rw [if_pos e2, if_pos (by omega)]
      · rw [if_neg e2, if_neg (by omega)]
set_option maxRecDepth 20000 in
set_option maxHeartbeats 4000000 in
theorem rjoin_c (p : Option Addr) (n c : Nat) (P : Nat → Option Addr) (N C : Nat → Nat) (L : Nat → List Int) (hn : n ≤ 1000000) (hN : ∀ i, i < n → N i ≤ 1000) (w : World) (hR : RowAt w p n (fun i => .slice (P i) (N i) (C i))) (hL : ∀ i, i < n → DotsL w (P i) (N i) (L i)) :
    Calls Tryz.prog 11 #[.slice p n c] w (PostV (joinA N L n) w) := by
  have hno : ∀ i, i < n → rightD (N i) (lD (L i)) = false → ∀ r, joinA N L n r = 0 := fun i hi h r => if_neg (fun h2 => by rw [h2 i hi] at h; cases h)
  have hyes : (∀ i, i < n → rightD (N i) (lD (L i)) = true) → ∀ r, joinA N L n r = mostV N L n r := fun h r => (if_pos h).trans (joinV_most (fun i hi => of_decide_eq_true (h i hi)) r)
  generalize joinA N L n = VA at *
  have hcell : ∀ wr, Below w.heap.size w wr → ∀ k, k < n → ∃ g o, p = some ⟨g, o, none⟩ ∧ wr.cell? ⟨g, o + k, none⟩ = some (.slice (P k) (N k) (C k)) := fun wr hb k hk => by
    obtain ⟨g, o, e, hg, hc⟩ := hR (by omega)
    exact ⟨g, o, e, (hb.cell (p := ⟨g, o + k, none⟩) hg).trans (hc k hk)⟩
  replace hcell := Lib.hid hcell
  replace hno := Lib.hid hno
  replace hyes := Lib.hid hyes
  replace hN := Lib.hid hN
  replace hL := Lib.hid hL
  clear hR
  go_enter Tryz.func11, Tryz.ntmps11
  go_wp2
  go_loopw [3] (fun i wr => ∃ k : Nat, k ≤ n ∧ i = .int .i64 k ∧ Below w.heap.size w wr ∧ ∀ i, i < k → rightD (N i) (lD (L i)) = true) (fun i _ => (n - intOf i).toNat)
  case atStart => exact ⟨0, by omega, rfl, Below.refl _ _, fun i hi => absurd hi (by omega)⟩
  case round =>
    obtain ⟨k, hk, hi, hb, hK⟩ := hrel
    subst hi
    by_cases he : k = n
    · subst he
      have hval := Lib.hid (hyes.out hK)
      have hRD := fun i hi => (of_decide_eq_true (hK i hi) : RightD (N i) (lD (L i)))
      have hrg := mostV_range hRD
      have hnn := mostV_nn N L k
      have hM0 : ∀ q, mostV N L 0 q = 0 := fun _ => rfl
      have hMs : ∀ i q, mostV N L (i + 1) q = max (mostV N L i q) (upD (N i) (lD (L i)) q) := fun _ _ => rfl
      clear hK hk hRD hyes hno
      generalize hMe : mostV N L = M at *
      replace hMe := Lib.hid hMe
      replace hrg := Lib.hid hrg
      replace hnn := Lib.hid hnn
      replace hM0 := Lib.hid hM0
      replace hMs := Lib.hid hMs
      have hO : RjS w.heap.size (M k) 0 (.slice none 0 0) wr := ⟨0, [], ⟨rfl, .inl ⟨rfl, rfl⟩⟩, fun i hi => absurd hi (by omega), fun i hi => absurd hi (by omega), fun q => by rw [if_neg (by omega)]; rfl⟩
      replace hO := Lib.hid hO
      go_wp2
      go_loopw [4, 5] (fun v i wr => ∃ c : Nat, c ≤ 8 ∧ i = .int .i64 ((c : Int) + 1) ∧ RjS w.heap.size (M k) c v wr ∧ Below w.heap.size w wr) (fun _ i _ => (9 - intOf i).toNat)
      case atStart => exact ⟨0, by decide, rfl, hO.out, hb⟩
      case round =>
        clear hO hb
        obtain ⟨c', hc, hi, hO, hb⟩ := hrel
        subst hi
        by_cases h8 : c' = 8
        · subst h8
          obtain ⟨m, ds, h1, h2, h3, h4⟩ := hO
          obtain ⟨q, cc, rfl, _⟩ := own_form h1
          have hP : PostV VA w (.returned (.slice q m cc)) wr := ⟨q, m, cc, ds, rfl, h1, h2, fun r => by
            rw [h4, hval.out]
            by_cases e : 1 ≤ r ∧ r ≤ ((8 : Nat) : Int)
            · rw [if_pos e]
            · rw [if_neg e, (hrg.out r).2 (by omega)], hb⟩
          replace hP := Lib.hid hP
          clear h1 h2 h3 h4 hc
          go_wp2
          go_returns
          exact hP.out
        · have hc0 : (0 : Int) ≤ (c' : Int) := by omega
          have hc1 : (c' : Int) + 1 ≤ 8 := by omega
          have hc2 : c' + 1 ≤ 8 := by omega
          replace hO := Lib.hid hO
          clear hc h8
          go_wp2
          go_loopw [6, 7] (fun t i wr => ∃ j : Nat, j ≤ k ∧ i = .int .i64 j ∧ t = .int .i64 (M j ((c' : Int) + 1)) ∧ RjS w.heap.size (M k) c' u4 wr ∧ Below w.heap.size w wr) (fun _ i _ => (k - intOf i).toNat)
          case atStart => exact ⟨0, Nat.zero_le _, rfl, by rw [hM0.out], hO.out, hb⟩
          case round =>
            clear hO hb
            obtain ⟨j, hj, hi, ht, hO, hb⟩ := hrel
            subst hi ht
            by_cases hjk : j = k
            · subst hjk
              have hr9 := (hrg.out ((c' : Int) + 1)).1
              have hn9 := hnn.out ((c' : Int) + 1)
              clear hj
              by_cases hz : M j ((c' : Int) + 1) = 0
              · have hO2 := hO.skip hc0 hz
                replace hO2 := Lib.hid hO2
                clear hO
                rw [hz]
                go_wp2
                exact ⟨⟨c' + 1, hc2, by rw [Int.natCast_add]; rfl, by rw [Int.natCast_add]; exact hO2.out, hb⟩, by simp [intOf]; omega⟩
              · have hpos : 0 < M j ((c' : Int) + 1) := by omega
                obtain ⟨m, ds, h1, h2, h3, h4⟩ := hO
                have hl : ds.length = 2 * m := by have := h1.1; rw [dotL_len] at this; omega
                have hm8 := right_le8 h2
                obtain ⟨a1, a2, a3⟩ := rj_put hl h2 h3 h4 (by omega) ⟨hpos, hr9⟩
                have hfin : ∀ v' w', w'.ownsRow w.heap.size 35 2 v' (m + 1) (dotL (ds ++ [(c' : Int) + 1, M j ((c' : Int) + 1)])) → RjS w.heap.size (M j) ((c' : Int) + 1) v' w' := fun v' w' ho => ⟨m + 1, _, ho, a1, a2, a3⟩
                replace hfin := Lib.hid hfin
                clear a1 a2 a3 h2 h3 h4 hz
                generalize M j ((c' : Int) + 1) = x at *
                have h1a := h1.alloc (.cells #[.int .i64 ((c' : Int) + 1), .int .i64 x] 35)
                have hba : Below w.heap.size w (wr.alloc (.cells #[.int .i64 ((c' : Int) + 1), .int .i64 x] 35)) := hb.alloc hb.size _
                have hXa : DotsL (wr.alloc (.cells #[.int .i64 ((c' : Int) + 1), .int .i64 x] 35)) (some ⟨wr.heap.size, 0, none⟩) 1 [(c' : Int) + 1, x] := dots_blk 1 _ (Blk.new wr _ _) rfl
                replace h1a := Lib.hid h1a
                replace hXa := Lib.hid hXa
                clear h1
                go_wp2_with (at_builtin; refine wpList_appD rfl rfl rfl h1a.out rfl hXa.out (by omega) hba.size ?_; intro v4 w4 hO4 hgr4 hcase4; have hb4 : Below w.heap.size w w4 := hba.grown hgr4 hba.size (fun k hk => (h1a.out.lt k hk).1); have hO5 := Lib.hid (hfin.out v4 w4 hO4); clear hO4 hgr4 hcase4 h1a hXa hba hfin)
                exact ⟨⟨c' + 1, hc2, by rw [Int.natCast_add]; rfl, by rw [Int.natCast_add]; exact hO5.out, hb4⟩, by simp [intOf]; omega⟩
            · have hj0 : (0 : Int) ≤ (j : Int) := by omega
              have hj1 : (j : Int) < (k : Int) := by omega
              have hj2 : j < k := by omega
              obtain ⟨g, o, rfl, c0⟩ := hcell.out wr hb j hj2
              have hup := up_c (P j) (N j) (C j) (lD (L j)) ((c' : Int) + 1) (by have := hN.out j hj2; omega) wr ((hL.out j hj2).below hb).2
              have hs := hMs.out j ((c' : Int) + 1)
              replace hup := Lib.hid hup
              replace hs := Lib.hid hs
              replace hO := Lib.hid hO
              clear hj hjk
              generalize upD (N j) (lD (L j)) ((c' : Int) + 1) = u at *
              go_wp2_with fail
              refine hup.out.mono ?_
              rintro e w3 ⟨rfl, hb3⟩
              have hb4 := hb.trans (hb3.mono hb.size)
              have hO3 := Lib.hid (hO.out.below hb3)
              clear hO hup
              go_wp2
              exact ⟨⟨j + 1, by omega, by rw [Int.natCast_add]; rfl, by rw [hs.out], hO3.out, hb4⟩, by simp [intOf]; omega⟩
    · have hk0 : (0 : Int) ≤ (k : Int) := by omega
      have hk1 : (k : Int) < (n : Int) := by omega
      have hk2 : k < n := by omega
      obtain ⟨g, o, rfl, c0⟩ := hcell.out wr hb k hk2
      have hrt := rright_c (P k) (N k) (C k) (lD (L k)) (by have := hN.out k hk2; omega) wr ((hL.out k hk2).below hb).2
      have hnok := hno.out k hk2
      have hKx : rightD (N k) (lD (L k)) = true → ∀ i, i < k + 1 → rightD (N i) (lD (L i)) = true := fun h i hi => by
        by_cases e : i = k
        · rw [e]; exact h
        · exact hK i (by omega)
      replace hrt := Lib.hid hrt
      replace hnok := Lib.hid hnok
      replace hKx := Lib.hid hKx
      clear hK hk he
      go_wp2_with fail
      refine hrt.out.mono ?_
      rintro e w2 ⟨rfl, hb2⟩
      have hb3 := hb.trans (hb2.mono hb.size)
      cases hr : rightD (N k) (lD (L k))
      · have hP := Lib.hid (post_none VA w w2 (hnok.out hr) hb3)
        clear hr hnok hKx hrt
        go_wp2
        go_returns
        exact hP.out
      · have hK1 := Lib.hid (hKx.out hr)
        clear hr hnok hKx hrt
        go_wp2
        exact ⟨⟨k + 1, by omega, by rw [Int.natCast_add]; rfl, hb3, hK1.out⟩, by simp [intOf]; omega⟩
end Go.Proofs.YtofgkfdfondajaaGreat
