/- The walks of the reference's Join, Number, Bytes (buttressref06). -/
import Derived.Test.YtiimojhdpmkeoaaGreatJe
namespace Go.Proofs.YtiimojhdpmkeoaaGreat
open Go.RowKit
set_option maxRecDepth 20000 in
set_option maxHeartbeats 4000000 in
theorem rjoin_o (g o K cc : Nat) (ps : List (List Int)) (hK : K = ps.length) (hT : ps.flatten.length ≤ 100000000) (hK2 : K ≤ 1000000) (w : World) (hP : PartsAt w g o ps) : Calls Tryz.prog 23 #[.slice (some ⟨g, o, none⟩) K cc] w (PostO ps.flatten w) := by
  have hlast : ps.take K = ps := by rw [hK]; exact List.take_length
  have hstep := take_flat ps
  have hle := take_le ps
  obtain ⟨hg, hP⟩ := hP
  obtain ⟨T, hTe⟩ : ∃ T : Nat → List Int, T = fun i => (ps.take i).flatten := ⟨_, rfl⟩
  have hT0 : T 0 = [] := by rw [hTe]; rfl
  have hTK : T K = ps.flatten := by rw [hTe]; show (ps.take K).flatten = _; rw [hlast]
  have hTs : ∀ i, i < K → T (i + 1) = T i ++ ps.getD i [] := fun i hi => by rw [hTe]; exact hstep i (by omega)
  have hTl : ∀ i, (T i).length ≤ 100000000 := fun i => by rw [hTe]; exact Nat.le_trans (hle i) hT
  rw [← hTK]
  obtain ⟨L, hL⟩ : ∃ L : Nat → List Int, L = fun i => ps.getD i [] := ⟨_, rfl⟩
  replace hTs : ∀ i, i < K → T (i + 1) = T i ++ L i := by rw [hL]; exact hTs
  replace hP : ∀ i, i < K → ∃ q n c, w.cell? ⟨g, o + i, none⟩ = some (.slice q n c) ∧ n = (L i).length ∧ BytesL w q (L i) := by rw [hL, hK]; exact hP
  clear hTe hL hlast hstep hle hTK hT hK
  replace hT0 := Lib.hid hT0
  replace hTs := Lib.hid hTs
  replace hTl := Lib.hid hTl
  replace hP := Lib.hid hP
  go_enter Tryz.func23, Tryz.ntmps23
  go_wp2
  go_loopw [3, 4] (fun v i wr => ∃ k : Nat, k ≤ K ∧ i = .int .i64 k ∧ wr.ownsRow w.heap.size 5 1 v (T k).length (bL (T k)) ∧ Below w.heap.size w wr) (fun _ i _ => (K - intOf i).toNat)
  case atStart => exact ⟨0, by omega, rfl, by rw [hT0.out]; exact ownB_nil, Below.refl _ _⟩
  case round =>
    obtain ⟨k, hk, hi, hown, hb⟩ := hrel
    subst hi
    by_cases he : k = K
    · subst he
      have hpo := Lib.hid (show PostO (T k) w (.returned u3) wr from ⟨_, _, rfl, hown, hb⟩)
      clear hown hk
      go_wp2
      go_returns
      exact hpo.out
    · have hk0 : (0 : Int) ≤ (k : Int) := by omega
      have hk1 : (k : Int) < (K : Int) := by omega
      have hk2 : k < K := by omega
      obtain ⟨q, n, c, hc, hn, hB⟩ := hP.out k hk2
      have hnx := hTs.out k hk2
      have hl1 := hTl.out (k + 1)
      rw [hnx, List.length_append, ← hn] at hl1
      have hc1 := (hb.cell (p := ⟨g, o + k, none⟩) hg).trans hc
      have hB1 := hB.below hb
      have hbs := hb.size
      clear hB hk he hc
      replace hown := Lib.hid hown
      replace hB1 := Lib.hid hB1
      replace hnx := Lib.hid hnx
      replace hn := Lib.hid hn
      have hl3 : (T k).length + n ≤ 1000000000 := by omega
      go_wp2_with (refine wpList_appB rfl rfl rfl hown.out rfl hn.out hB1.out hl3 hbs ?_; intro v' w2 hown2 hgr hat; have hb2 := hb.grown hgr hbs (fun g h => (hown.out.lt g h).1); replace hown2 := Lib.hid hown2; clear hgr hat)
      refine ⟨⟨k + 1, by omega, rfl, ?_, hb2⟩, by simp [intOf]; omega⟩
      rw [hnx.out, List.length_append, ← hn.out]
      exact hown2.out
theorem numL_take (n : Int) (k : Nat) (hk : k < 8) : (numL n).take (k + 1) = (numL n).take k ++ [nb n k] := by
  have h : k < (numL n).length := by rw [numL_len]; exact hk
  rw [List.take_succ_eq_append_getElem h]
  congr 2
  have := numL_get n k hk
  rw [List.getD_eq_getElem?_getD, List.getElem?_eq_getElem h] at this
  exact this
set_option maxRecDepth 20000 in
set_option maxHeartbeats 4000000 in
theorem rnumber_o (n : Int) (h0 : 0 ≤ n) (h1 : n < 4611686018427387904) (w : World) : Calls Tryz.prog 26 #[.int .i64 n] w (PostO (numL n) w) := by
  have hw0 : IntKind.u64.wrap n = n := by rw [IntKind.wrap_u64, Int.emod_eq_of_lt h0 (by omega)]
  go_enter Tryz.func26, Tryz.ntmps26
  go_wp2
  go_loopw [3, 4] (fun v i wr => ∃ k : Nat, k ≤ 8 ∧ i = .int .i64 (7 - (k : Int)) ∧ wr.ownsRow w.heap.size 5 1 v k (bL ((numL n).take k)) ∧ Below w.heap.size w wr) (fun _ i _ => (intOf i + 1).toNat)
  case atStart => exact ⟨0, by omega, rfl, ownB_nil, Below.refl _ _⟩
  case round =>
    obtain ⟨k, hk, hi, hown, hb⟩ := hrel
    subst hi
    by_cases he : k = 8
    · subst he
      have hpo := Lib.hid (show PostO (numL n) w (.returned u3) wr from ⟨_, _, rfl, by rw [List.take_of_length_le (by rw [numL_len]; omega)] at hown; exact hown, hb⟩)
      clear hown hk
      go_wp2
      go_returns
      exact hpo.out
    · have hk8 : k < 8 := by omega
      have hk0 : (0 : Int) ≤ 7 - (k : Int) := by omega
      have hk1 : (7 : Int) - (k : Int) ≤ 7 := by omega
      have hnx := numL_take n k hk8
      have hsh : 8 * (7 - (k : Int)) = ((8 * (7 - k) : Nat) : Int) := by omega
      have hlt : 8 * (7 - k) < 64 := by omega
      have hoa := hown.alloc (.cells #[.int .u8 (n / 2 ^ (8 * (7 - k)) % 256)] 5)
      have hba : Below w.heap.size w (wr.alloc (.cells #[.int .u8 (n / 2 ^ (8 * (7 - k)) % 256)] 5)) := hb.alloc hb.size _
      have hXa : BytesL (wr.alloc (.cells #[.int .u8 (n / 2 ^ (8 * (7 - k)) % 256)] 5)) (some ⟨wr.heap.size, 0, none⟩) [nb n k] := fun _ => ⟨_, 0, rfl, by simp, fun j hj => by
        have : j = 0 := by simpa using hj
        subst this
        exact (Blk.new wr 5 #[.int .u8 (n / 2 ^ (8 * (7 - k)) % 256)]).cell 0⟩
      replace hoa := Lib.hid hoa
      replace hXa := Lib.hid hXa
      replace hnx := Lib.hid hnx
      clear hown hb hk he
      go_wp2_with (at_builtin; refine wpList_appB rfl rfl rfl hoa.out rfl rfl hXa.out (by simp; omega) hba.size ?_; intro v4 w4 hO4 hgr4 hcase4; have hb4 : Below w.heap.size w w4 := hba.grown hgr4 hba.size (fun k hk => (hoa.out.lt k hk).1); clear hgr4 hcase4 hoa hXa hba; rw [← hnx.out] at hO4; replace hO4 := Lib.hid hO4)
      exact ⟨⟨k + 1, by omega, by rw [show (7 : Int) - (k : Int) - 1 = 7 - ((k + 1 : Nat) : Int) by omega], hO4.out, hb4⟩, by simp [intOf]; omega⟩
set_option maxRecDepth 20000 in
set_option maxHeartbeats 2000000 in
theorem rbytes_o (p : Option Addr) (n c : Nat) (xs : List Int) (hn : n = xs.length) (hn2 : n ≤ 1000000) (w : World) (hB : BytesL w p xs) : Calls Tryz.prog 25 #[.slice p n c] w (PostO (lenL xs) w) := by
  have hnm := rnumber_o (n : Int) (by omega) (by omega)
  have hle : numL (n : Int) ++ xs = lenL xs := by rw [hn]; rfl
  replace hnm := Lib.hid hnm
  replace hle := Lib.hid hle
  replace hB := Lib.hid hB
  replace hn := Lib.hid hn
  go_enter Tryz.func25, Tryz.ntmps25
  go_wp2_with fail
  refine (hnm.out _).mono ?_
  rintro e w1 ⟨v, m, rfl, ho, hb⟩
  have hB1 := Lib.hid (hB.out.below hb)
  have hm : m = 8 := by have := ho.1; rw [bL_len, numL_len] at this; omega
  subst hm
  replace ho := Lib.hid ho
  clear hB hnm
  go_wp2_with (at_builtin; refine wpList_appB rfl rfl rfl ho.out rfl hn.out hB1.out (by omega) hb.size ?_; intro v4 w4 hO4 hgr4 hcase4; have hb4 : Below w.heap.size w w4 := hb.grown hgr4 hb.size (fun k hk => (ho.out.lt k hk).1); rw [hle.out] at hO4; have hP := Lib.hid (show PostO (lenL xs) w (.returned v4) w4 from ⟨_, _, rfl, hO4, hb4⟩); clear hgr4 hcase4 hO4 ho)
  go_returns
  exact hP.out
end Go.Proofs.YtiimojhdpmkeoaaGreat
