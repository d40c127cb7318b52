/- The walk of flatBytes, of rows that are nil too. -/
import Derived.Test.YtiimojhdpmkeoaaGreatBa
import Derived.Deep.RegionWith
namespace Go.Proofs.YtiimojhdpmkeoaaGreat
open Go.RowKit
theorem made64 : (madeCells (Value.int .u8 0).cells (64 * 1)).toList = cB 64 (fun _ => 0) := by
  simp [madeCells, cB, Value.cells]
  intro a _
  rw [Nat.mod_one]
  rfl
set_option maxRecDepth 20000 in
set_option maxHeartbeats 4000000 in
theorem flatBytes_c (B L K C : Nat) (nl : Nat → Bool) (gr nr cr : Nat → Nat) (f0 : Nat → Nat → Int) (w : World) (hA : ApB B L K nl gr nr) (hBw : B ≤ w.heap.size) (hS : StB B w L K nl gr nr cr f0 w) :
    Calls Tryz.prog 52 #[.slice (some ⟨L, 0, none⟩) K C] w fun e w' => e = .returned (.bool true) ∧ Below B w w' ∧ ∀ X, X < w.heap.size → (∀ k, k < K → nl k = false → gr k ≠ X) → w'.heap[X]? = w.heap[X]? := by
  have hK1 : (K : Int) ≤ 400 := by have := hA.many; omega
  replace hA := Lib.hid hA
  replace hS := Lib.hid hS
  go_enter Tryz.func52, Tryz.ntmps52
  go_wp2
  go_loopw [3] (fun i wr => ∃ k : Nat, k ≤ K ∧ i = .int .i64 k ∧ ∃ f, StB B w L K nl gr nr cr f wr ∧ ∀ j t, j < k → t < nr j → f j t = mb j t) (fun i _ => (K - intOf i).toNat)
  case atStart => exact ⟨0, Nat.zero_le _, rfl, f0, hS.out, fun j t h => absurd h (by omega)⟩
  case round =>
    clear hS
    obtain ⟨k, hk, hi', f, hS, hF⟩ := hrel
    subst hi'
    by_cases hend : k = K
    · obtain rfl := hend.symm
      have hS1 := hS.congr (f' := fun j t => mb j t) (fun j h1 t h2 => hF j t h1 h2)
      have hsz := hS1.size hBw
      clear hS hF hk
      replace hS1 := Lib.hid hS1
      obtain ⟨i0, hi0, hz0, hz1, hz2⟩ := info_parts bs_infoK
      replace hz1 := Lib.hid hz1
      replace hz2 := Lib.hid hz2
      replace hz0 := Lib.hid hz0
      replace hi0 := Lib.hid hi0
      go_wp2_with (refine wpList_make_full _ rfl _ _ 36 rfl wr.heap.size 23 i0 (.slice none 0 0) 1 (by kernel_rfl) hi0.out hz0.out hz1.out .i64 .i64 _ _ K rfl rfl rfl rfl (by rw [hz2.out]; omega) (by unfold maxLen; omega) (Nat.le_refl _) ?_; intro w1 hO1 hgr1; have hO : OutB B w L K nl gr nr cr 64 wr.heap.size 0 (fun _ => 0) (fun _ => 0) w1 := OutB.first hS1.out hsz hgr1 (ptrB_of hO1); clear hO1 hgr1 hS1)
      generalize wr.heap.size = G at *
      go_loopw [6] (fun i wr => ∃ k : Nat, k ≤ K ∧ i = .int .i64 k ∧ ∃ h c, OutB B w L K nl gr nr cr 64 G k h c wr) (fun i _ => (K - intOf i).toNat)
      case atStart => exact ⟨0, Nat.zero_le _, rfl, _, _, hO⟩
      case round =>
        clear hO
        obtain ⟨k, hk, hi', h, c, hO⟩ := hrel
        subst hi'
        by_cases hend : k = K
        · obtain rfl := hend.symm
          clear hk
          replace hO := Lib.hid hO
          go_wp2
          go_loopw [9] (fun i wr => ∃ k : Nat, k ≤ K ∧ i = .int .i64 k ∧ OutB B w L K nl gr nr cr 64 G K h c wr) (fun i _ => (K - intOf i).toNat)
          case atStart => exact ⟨0, Nat.zero_le _, rfl, hO.out⟩
          case round =>
            clear hO
            obtain ⟨k, hk, hi', hO⟩ := hrel
            subst hi'
            by_cases hend : k = K
            · obtain rfl := hend.symm
              have hO1 := hO.restart
              clear hk hO
              replace hO1 := Lib.hid hO1
              go_wp2
              go_loopw [11] (fun i wr => ∃ k : Nat, k ≤ K ∧ i = .int .i64 k ∧ ∃ h c, OutB B w L K nl gr nr cr 0 G k h c wr) (fun i _ => (K - intOf i).toNat)
              case atStart => exact ⟨0, Nat.zero_le _, rfl, _, _, hO1.out⟩
              case round =>
                clear hO1
                obtain ⟨k, hk, hi', h, c, hO⟩ := hrel
                subst hi'
                by_cases hend : k = K
                · obtain rfl := hend.symm
                  clear hk
                  replace hO := Lib.hid hO
                  go_wp2
                  go_loopw [14] (fun i wr => ∃ k : Nat, k ≤ K ∧ i = .int .i64 k ∧ OutB B w L K nl gr nr cr 0 G K h c wr) (fun i _ => (K - intOf i).toNat)
                  case atStart => exact ⟨0, Nat.zero_le _, rfl, hO.out⟩
                  case round =>
                    clear hO
                    obtain ⟨k, hk, hi', hO⟩ := hrel
                    subst hi'
                    by_cases hend : k = K
                    · obtain rfl := hend.symm
                      have hbl := Lib.hid (And.intro hO.st.below hO.st.keep)
                      clear hk hO
                      go_wp2
                      go_returns
                      exact ⟨rfl, hbl.out⟩
                    · have hk1 : k < K := by omega
                      have hk0 : (0 : Int) ≤ (k : Int) := by omega
                      have hk2 : (k : Int) < (K : Int) := by omega
                      have hn1 : (nr k : Int) ≤ 100000 := by have := hA.out.len k hk1; omega
                      clear hk hend
                      replace hO := Lib.hid hO
                      go_wp2
                      go_loopw [15] (fun i wr => ∃ m : Nat, m ≤ nr k ∧ i = .int .i64 m ∧ OutB B w L K nl gr nr cr 0 G K h c wr) (fun i _ => (nr k - intOf i).toNat)
                      case atStart => exact ⟨0, Nat.zero_le _, rfl, hO.out⟩
                      case round =>
                        clear hO
                        obtain ⟨m, hm, hi', hO⟩ := hrel
                        subst hi'
                        have cL := hO.st.ptr.cell k hk1
                        by_cases hme : m = nr k
                        · subst hme
                          replace hO := Lib.hid hO
                          clear hm
                          cases hnl : nl k
                          · rw [rowV_at hnl] at cL
                            go_wp2
                            exact ⟨⟨k + 1, by omega, by rw [Int.natCast_add]; rfl, hO.out⟩, by simp [intOf]; omega⟩
                          · rw [rowV_nil hnl] at cL
                            have hz : (nr k : Int) = 0 := by have := hA.out.none_ k hk1 hnl; omega
                            go_wp2
                            exact ⟨⟨k + 1, by omega, by rw [Int.natCast_add]; rfl, hO.out⟩, by simp [intOf]; omega⟩
                        · have hm1 : m < nr k := by omega
                          have hm0 : (0 : Int) ≤ (m : Int) := by omega
                          have hm2 : (m : Int) < (nr k : Int) := by omega
                          have hm3 : (m : Int) < (nr k : Int) + 64 := by omega
                          have hnl : nl k = false := by
                            cases hnl : nl k
                            · rfl
                            · have := hA.out.none_ k hk1 hnl; omega
                          rw [rowV_at hnl] at cL
                          have hmc : ∀ q, Calls Tryz.prog 36 #[.int .i64 k, .int .i64 m] (wr.drewN q) fun e w'' => e = .returned (.int .u8 (mb k m)) ∧ ∃ m, w'' = wr.drewN m := fun q => (markByte_c k m (by omega) (by omega) _).mono fun _ _ h => ⟨h.1, q, h.2.symm⟩
                          have hx : (mb k m == mb k m) = true := beq_self_eq_true _
                          have cG := hO.gs.cell k hk1
                          have cH := (hO.row k hk1).cell m (by omega)
                          have cD := (hO.st.row k hk1 hnl).cell m hm1
                          have hO' := fun n => hO.after (st_drewN wr n)
                          clear hO hm hme
                          replace hO' := Lib.hid hO'
                          replace hmc := Lib.hid hmc
                          generalize mb (k : Int) (m : Int) = x at *
                          go_wp2
                          go_quiet (first | (exact hmc.out _))
                          go_wp2
                          exact ⟨⟨m + 1, by omega, by rw [Int.natCast_add]; rfl, hO'.out _⟩, by simp [intOf]; omega⟩
                · have hk1 : k < K := by omega
                  have hk0 : (0 : Int) ≤ (k : Int) := by omega
                  have hk2 : (k : Int) < (K : Int) := by omega
                  have hn1 : (nr k : Int) ≤ 100000 := by have := hA.out.len k hk1; omega
                  clear hk hend
                  replace hO := Lib.hid hO
                  obtain ⟨i1, hi1, hy0, hy1, hy2⟩ := info_parts u8_infoK
                  replace hy1 := Lib.hid hy1
                  replace hy2 := Lib.hid hy2
                  replace hy0 := Lib.hid hy0
                  replace hi1 := Lib.hid hi1
                  go_wp2_with (refine wpList_make_full _ rfl _ _ 23 rfl wr.heap.size 5 i1 (.int .u8 0) 1 (by kernel_rfl) hi1.out hy0.out hy1.out .i64 .i64 64 64 64 rfl rfl rfl rfl (by rw [hy2.out]; omega) (by unfold maxLen; omega) (Nat.le_refl _) ?_; intro w2 hO2 hgr2)
                  have hRM : RowB w2 wr.heap.size 64 64 (fun _ => 0) := rowB_of (by rw [← made64]; exact hO2)
                  have hOM := Lib.hid (hO.out.after ((Below.refl _ _).grown hgr2 (Nat.le_refl _) (fun k h => by cases h)))
                  have hMG := hO.out.size
                  have hMh : ∀ j, j < k → h j ≠ wr.heap.size := (fun j hj => by have := (hO.out.row j hj).lt; omega)
                  clear hO2 hgr2 hO
                  replace hMh := Lib.hid hMh
                  replace hRM := Lib.hid hRM
                  generalize wr.heap.size = M at *
                  go_loopw [13] (fun i wr => ∃ m : Nat, m ≤ 64 ∧ i = .int .i64 m ∧ OutB B w L K nl gr nr cr 0 G k h c wr ∧ ∃ f, RowB wr M 64 64 f) (fun i _ => (64 - intOf i).toNat)
                  case atStart => exact ⟨0, Nat.zero_le _, rfl, hOM.out, _, hRM.out⟩
                  case round =>
                    clear hOM hRM
                    obtain ⟨m, hm, hi', hO, f, hRM⟩ := hrel
                    subst hi'
                    by_cases hme : m = 64
                    · subst hme
                      have cL := hO.st.ptr.cell k hk1
                      cases hnl : nl k
                      · rw [rowV_at hnl] at cL
                        have hRk := hO.st.row k hk1 hnl
                        have hca : ∀ j, j < 64 → wr.cell? ((⟨M, 0, none⟩ : Addr).add j) = some (.int .u8 ((fun t : Nat => if t < nr k then mb k t else f (t - nr k)) (nr k + j))) := fun j hj => by
                          rw [add_oK, Nat.zero_add, hRM.cell j hj]
                          show _ = some (Value.int .u8 (if nr k + j < nr k then mb k ((nr k + j : Nat) : Int) else f (nr k + j - nr k)))
                          rw [if_neg (by omega), Nat.add_sub_cancel_left]
                        replace hO := Lib.hid hO
                        clear hm hRM
                        go_wp2_with (at_builtin; refine wpList_app2 rfl rfl rfl hRk rfl (fun t : Nat => if t < nr k then mb k t else f (t - nr k)) (fun i hi => (if_pos hi).symm) hca (by omega) ?_; intro g2 c2 w4 hR4 hcase4; have hO5 := hO.out.app hA.out hk1 (by omega) (.inl ⟨rfl, rfl, hnl⟩) hR4 (fun t ht => if_pos ht) hcase4; have hfz := hO5.1.gs.frozen k; obtain ⟨u, hu⟩ := hO5.1.gs.some_ k hk1; have hO6 := Lib.hid (hO5.1.put hk1 (hc := g2) (cc := c2) ((hR4.cut (by omega)).congr (fun t ht => if_pos (by omega))) (hO5.2.elim (fun h => .inl ⟨h.1, h.2.2⟩) (fun h => .inr h.1))); clear hR4 hcase4 hca hO5 hRk hO)
                        exact ⟨⟨k + 1, by omega, by rw [Int.natCast_add]; rfl, _, _, hO6.out⟩, by simp [intOf]; omega⟩
                      · rw [rowV_nil hnl] at cL
                        have hz := hA.out.none_ k hk1 hnl
                        have hca : ∀ j, j < 64 → wr.cell? ((⟨M, 0, none⟩ : Addr).add j) = some (.int .u8 (f j)) := fun j hj => by
                          rw [add_oK, Nat.zero_add, hRM.cell j hj]
                        replace hO := Lib.hid hO
                        replace hz := Lib.hid hz
                        clear hm hRM
                        go_wp2_with (at_builtin; refine wpList_appB0 rfl rfl rfl rfl f (by decide) hca (by omega) ?_; intro c2 w4 hR4 hgr4; have hO5 := hO.out.app0 hgr4; have hfz := hO5.1.gs.frozen k; obtain ⟨u, hu⟩ := hO5.1.gs.some_ k hk1; have hO6 := Lib.hid (hO5.1.put hk1 (hc := wr.heap.size) (cc := c2) ((hR4.cut (m := nr k + 0) (by rw [hz.out]; omega)).congr (fun t ht => by rw [hz.out] at ht; omega)) (.inr hO5.2.1)); rw [hz.out] at hO6; clear hR4 hgr4 hca hO5 hO)
                        exact ⟨⟨k + 1, by omega, by rw [Int.natCast_add]; rfl, _, _, hO6.out⟩, by simp [intOf]; omega⟩
                    · have hm1 : m < 64 := by omega
                      have hm0 : (0 : Int) ≤ (m : Int) := by omega
                      have hm2 : (m : Int) < 64 := by omega
                      have hmc : ∀ w, Calls Tryz.prog 36 #[.int .i64 ((k : Int) + K), .int .i64 m] w fun e w' => e = .returned (.int .u8 (mb ((k : Int) + K) m)) ∧ w = w' := fun w => markByte_c _ _ (by omega) (by omega) _
                      have cR := hRM.cell m hm1
                      have fR := hRM.frozen m
                      have hO' := hO.far (p := ⟨M, m, none⟩) hMG hMh.out (.int .u8 (mb ((k : Int) + K) m))
                      have hRM' := hRM.set_ m hm1 (mb ((k : Int) + K) m)
                      clear hO hRM hm hme
                      replace hO' := Lib.hid hO'
                      replace hRM' := Lib.hid hRM'
                      replace hmc := Lib.hid hmc
                      generalize mb ((k : Int) + K) (m : Int) = x at *
                      go_wp2_with fail
                      refine (hmc.out _).mono ?_
                      rintro e w3 ⟨rfl, rfl⟩
                      go_wp2
                      exact ⟨⟨m + 1, by omega, by rw [Int.natCast_add]; rfl, hO'.out, _, hRM'.out⟩, by simp [intOf]; omega⟩
            · have hk1 : k < K := by omega
              have hk0 : (0 : Int) ≤ (k : Int) := by omega
              have hk2 : (k : Int) < (K : Int) := by omega
              have hn1 : (nr k : Int) ≤ 100000 := by have := hA.out.len k hk1; omega
              clear hk hend
              replace hO := Lib.hid hO
              go_wp2
              go_loopw [10] (fun i wr => ∃ m : Nat, m ≤ nr k + 64 ∧ i = .int .i64 m ∧ OutB B w L K nl gr nr cr 64 G K h c wr) (fun i _ => (nr k + 64 - intOf i).toNat)
              case atStart => exact ⟨0, Nat.zero_le _, rfl, hO.out⟩
              case round =>
                clear hO
                obtain ⟨m, hm, hi', hO⟩ := hrel
                subst hi'
                have cG := hO.gs.cell k hk1
                by_cases hme : m = nr k + 64
                · have hme1 : (m : Int) = (nr k : Int) + 64 := by omega
                  have hx : decide (m < nr k + 64) = false := decide_eq_false (by omega)
                  have hx2 : ((m : Int) < (nr k : Int) + 64) = False := eq_false (by omega)
                  replace hO := Lib.hid hO
                  clear hm
                  go_wp2
                  exact ⟨⟨k + 1, by omega, by rw [Int.natCast_add]; rfl, hO.out⟩, by simp [intOf]; omega⟩
                · have hm1 : m < nr k + 64 := by omega
                  have hm0 : (0 : Int) ≤ (m : Int) := by omega
                  have hm2 : (m : Int) < (nr k : Int) + 64 := by omega
                  have hm3 : (m : Int) < ((nr k + 64 : Nat) : Int) := by omega
                  have hmc : ∀ q, Calls Tryz.prog 36 #[.int .i64 k, .int .i64 m] (wr.drewN q) fun e w'' => e = .returned (.int .u8 (mb k m)) ∧ ∃ m, w'' = wr.drewN m := fun q => (markByte_c k m (by omega) (by omega) _).mono fun _ _ h => ⟨h.1, q, h.2.symm⟩
                  have hx : (mb k m == mb k m) = true := beq_self_eq_true _
                  have cL := hO.st.ptr.cell k hk1
                  have cH := (hO.row k hk1).cell m hm1
                  have hO' := fun n => hO.after (st_drewN wr n)
                  by_cases hmn : m < nr k
                  · have hnl : nl k = false := by
                      cases hnl : nl k
                      · rfl
                      · have := hA.out.none_ k hk1 hnl; omega
                    rw [rowV_at hnl] at cL
                    have cD := (hO.st.row k hk1 hnl).cell m hmn
                    clear hO hm hme
                    replace hO' := Lib.hid hO'
                    replace hmc := Lib.hid hmc
                    generalize mb (k : Int) (m : Int) = x at *
                    have hmn1 : (m : Int) < (nr k : Int) := by omega
                    have hmn2 : decide (m < nr k) = true := decide_eq_true hmn
                    go_wp2
                    go_quiet (first | (exact hmc.out _))
                    go_wp2
                    exact ⟨⟨m + 1, by omega, by rw [Int.natCast_add]; rfl, hO'.out _⟩, by simp [intOf]; omega⟩
                  · obtain ⟨qq, cq, hq⟩ : ∃ q cq, rowV nl gr nr cr k = .slice q (nr k) cq := by
                      cases hnl : nl k
                      · exact ⟨_, _, rowV_at hnl⟩
                      · rw [hA.out.none_ k hk1 hnl]; exact ⟨_, _, rowV_nil hnl⟩
                    rw [hq] at cL
                    clear hO hm hme hq
                    replace hO' := Lib.hid hO'
                    replace hmc := Lib.hid hmc
                    generalize mb (k : Int) (m : Int) = x at *
                    have hmn2 : decide (m < nr k) = false := decide_eq_false hmn
                    go_wp2
                    go_quiet (first | (exact hmc.out _))
                    go_wp2
                    exact ⟨⟨m + 1, by omega, by rw [Int.natCast_add]; rfl, hO'.out _⟩, by simp [intOf]; omega⟩
        · have hk1 : k < K := by omega
          have hk0 : (0 : Int) ≤ (k : Int) := by omega
          have hk2 : (k : Int) < (K : Int) := by omega
          have hn1 : (nr k : Int) ≤ 100000 := by have := hA.out.len k hk1; omega
          have cL := hO.st.ptr.cell k hk1
          clear hk hend
          obtain ⟨v0, hv0, hv1⟩ : ∃ v0, rowV nl gr nr cr k = v0 ∧ ((v0 = .slice none 0 0 ∧ nl k = true ∧ nr k = 0) ∨ (v0 = .slice (some ⟨gr k, 0, none⟩) (nr k) (cr k) ∧ nl k = false)) := by
            cases hnl : nl k
            · exact ⟨_, rfl, .inr ⟨rowV_at hnl, rfl⟩⟩
            · exact ⟨_, rfl, .inl ⟨rowV_nil hnl, rfl, hA.out.none_ k hk1 hnl⟩⟩
          rw [hv0] at cL
          have hat : ∀ wr, OutB B w L K nl gr nr cr 64 G k h c wr → wr.cell? ⟨L, k, none⟩ = some v0 := fun wr hO => by rw [hO.st.ptr.cell k hk1, hv0]
          have hst : (v0 = .slice none 0 0 ∧ nl k = true ∧ (0 : Nat) = 0) ∨ ∃ hc cc, v0 = .slice (some ⟨hc, 0, none⟩) (nr k + 0) cc ∧ RowB wr hc (nr k + 0) cc (fun t => mb k t) ∧ ((hc = gr k ∧ cc = cr k ∧ nl k = false) ∨ (G < hc ∧ ∀ j, j < k → h j ≠ hc)) := by
            rcases hv1 with ⟨e, hn, _⟩ | ⟨e, hn⟩
            · exact .inl ⟨e, hn, rfl⟩
            · exact .inr ⟨gr k, cr k, e, hO.st.row k hk1 hn, .inl ⟨rfl, rfl, hn⟩⟩
          obtain ⟨q0, cq, hq⟩ : ∃ q cq, v0 = .slice q (nr k) cq := by
            rcases hv1 with ⟨e, _, hz⟩ | ⟨e, _⟩
            · rw [hz]; exact ⟨_, _, e⟩
            · exact ⟨_, _, e⟩
          have hnil : v0 = .slice none 0 0 → nl k = true → nr k = 0 := fun _ hn => hA.out.none_ k hk1 hn
          clear hv1 hv0
          subst hq
          replace hO := Lib.hid hO
          replace hst := Lib.hid hst
          replace hat := Lib.hid hat
          replace hnil := Lib.hid hnil
          go_wp2
          go_loopw [7, 8] (fun v i wr => ∃ m : Nat, m ≤ 64 ∧ i = .int .i64 m ∧ OutB B w L K nl gr nr cr 64 G k h c wr ∧ ((v = .slice none 0 0 ∧ nl k = true ∧ m = 0) ∨ ∃ hc cc, v = .slice (some ⟨hc, 0, none⟩) (nr k + m) cc ∧ RowB wr hc (nr k + m) cc (fun t => mb k t) ∧ ((hc = gr k ∧ cc = cr k ∧ nl k = false) ∨ (G < hc ∧ ∀ j, j < k → h j ≠ hc)))) (fun _ i _ => (64 - intOf i).toNat)
          case atStart =>
            refine ⟨0, Nat.zero_le _, rfl, hO.out, ?_⟩
            rcases hst.out with ⟨e, hn, _⟩ | h
            · exact .inl ⟨e, hn, rfl⟩
            · exact .inr h
          case round =>
            clear hO hst cL
            rename_i v i
            obtain ⟨m, hm, hi', hO, hcs⟩ := hrel
            subst hi'
            have cL := hat.out _ hO
            rcases hcs with ⟨rfl, hnl, rfl⟩ | ⟨hc, cc, rfl, hR, hp⟩
            · have hz := hA.out.none_ k hk1 hnl
              have hmc : ∀ w, Calls Tryz.prog 36 #[.int .i64 k, .int .i64 0] w fun e w' => e = .returned (.int .u8 (mb k ((0 : Nat) : Int))) ∧ w = w' := fun w => markByte_c k 0 (by omega) (by omega) _
              rw [hz] at cL
              replace hmc := Lib.hid hmc
              replace hO := Lib.hid hO
              replace hz := Lib.hid hz
              clear hm
              go_wp2_with fail
              refine (hmc.out _).mono ?_
              rintro e w3 ⟨rfl, rfl⟩
              have hOa := hO.out.after (w' := wr.alloc (Obj.cells #[.int .u8 (mb k ((0 : Nat) : Int))] 5)) ((Below.refl _ _).alloc (Nat.le_refl _) _)
              have hca : ∀ j, j < 1 → (wr.alloc (Obj.cells #[.int .u8 (mb k ((0 : Nat) : Int))] 5)).cell? ((⟨wr.heap.size, 0, none⟩ : Addr).add j) = some (.int .u8 ((fun t : Nat => mb k t) j)) := fun j hj => by
                obtain rfl : j = 0 := by omega
                rw [add_oK]
                exact (Blk.new wr _ _).cell 0
              replace hOa := Lib.hid hOa
              clear hO
              go_wp2_with (at_builtin; refine wpList_appB0 rfl rfl rfl rfl (fun t : Nat => mb k t) (by decide) hca (by omega) ?_; intro c2 w4 hR4 hgr4; have hO5 := Lib.hid (hOa.out.app0 hgr4); have hR5 := Lib.hid hR4; clear hR4 hgr4 hca hOa)
              have e9 : (wr.alloc (Obj.cells #[.int .u8 (mb k 0)] 5)).heap.size = wr.heap.size + 1 := by simp
              have e8 : (wr.alloc (Obj.cells #[.int .u8 (mb k ((0 : Nat) : Int))] 5)).heap.size = wr.heap.size + 1 := by simp
              first | rw [e9] at hO5 | rw [e8] at hO5
              first | rw [e9] at hR5 | rw [e8] at hR5
              exact ⟨⟨1, by omega, rfl, hO5.out.1, .inr ⟨_, c2, by rw [hz.out], by rw [hz.out]; exact hR5.out, .inr hO5.out.2⟩⟩, by simp [intOf]⟩
            · by_cases hme : m = 64
              · subst hme
                have hsome := hO.gs.some_ k hk1
                obtain ⟨u, hu⟩ := hsome
                have hfz := hO.gs.frozen k
                have hO' := hO.put hk1 hR (hp.elim (fun h => .inl ⟨h.1, h.2.2⟩) (fun h => .inr h.1))
                clear hO hR hp hm
                replace hO' := Lib.hid hO'
                go_wp2
                exact ⟨⟨k + 1, by omega, by rw [Int.natCast_add]; rfl, _, _, hO'.out⟩, by simp [intOf]; omega⟩
              · have hm1 : m < 64 := by omega
                have hm0 : (0 : Int) ≤ (m : Int) := by omega
                have hm2 : (m : Int) < 64 := by omega
                have hmc : ∀ w, Calls Tryz.prog 36 #[.int .i64 k, .int .i64 ((nr k : Int) + m)] w fun e w' => e = .returned (.int .u8 (mb k ((nr k + m : Nat) : Int))) ∧ w = w' := fun w => markByte_c k _ (by omega) (by omega) _
                replace hmc := Lib.hid hmc
                replace hp := Lib.hid hp
                replace hO := Lib.hid hO
                replace hR := Lib.hid hR
                clear hm hme
                go_wp2_with fail
                refine (hmc.out _).mono ?_
                rintro e w3 ⟨rfl, rfl⟩
                have hal : Below wr.heap.size wr (wr.alloc (Obj.cells #[.int .u8 (mb k ((nr k + m : Nat) : Int))] 5)) := (Below.refl _ _).alloc (Nat.le_refl _) _
                have hRa := hR.out.below hal
                have hOa := hO.out.after hal
                have hca : ∀ j, j < 1 → (wr.alloc (Obj.cells #[.int .u8 (mb k ((nr k + m : Nat) : Int))] 5)).cell? ((⟨wr.heap.size, 0, none⟩ : Addr).add j) = some (.int .u8 ((fun t : Nat => mb k t) (nr k + m + j))) := fun j hj => by
                  obtain rfl : j = 0 := by omega
                  rw [add_oK]
                  exact (Blk.new wr _ _).cell 0
                replace hOa := Lib.hid hOa
                clear hR hO
                go_wp2_with (at_builtin; refine wpList_app2 rfl rfl rfl hRa rfl (fun t : Nat => mb k t) (fun i hi => rfl) hca (by omega) ?_; intro g2 c2 w4 hR4 hcase4; have hR5 := Lib.hid hR4; have hO5 := Lib.hid (hOa.out.app hA.out hk1 (by omega) hp.out hR4 (fun t _ => rfl) hcase4); clear hR4 hcase4 hca hRa hOa)
                exact ⟨⟨m + 1, by omega, by rw [Int.natCast_add]; rfl, hO5.out.1, .inr ⟨g2, c2, by rw [Nat.add_assoc], hR5.out, hO5.out.2⟩⟩, by simp [intOf]; omega⟩
    · have hk1 : k < K := by omega
      have hk0 : (0 : Int) ≤ (k : Int) := by omega
      have hk2 : (k : Int) < (K : Int) := by omega
      have hn1 : (nr k : Int) ≤ 100000 := by have := hA.out.len k hk1; omega
      clear hk hend
      replace hS := Lib.hid hS
      replace hF := Lib.hid hF
      go_wp2
      go_loopw [4] (fun i wr => ∃ m : Nat, m ≤ nr k ∧ i = .int .i64 m ∧ ∃ f, StB B w L K nl gr nr cr f wr ∧ (∀ j t, j < k → t < nr j → f j t = mb j t) ∧ ∀ t, t < m → f k t = mb k t) (fun i _ => (nr k - intOf i).toNat)
      case atStart => exact ⟨0, Nat.zero_le _, rfl, f, hS.out, hF.out, fun t h => absurd h (by omega)⟩
      case round =>
        clear hS hF
        rename_i wr0 _ _
        obtain ⟨m, hm, hi', f, hS, hF, hG⟩ := hrel
        subst hi'
        have cL := hS.ptr.cell k hk1
        by_cases hme : m = nr k
        · subst hme
          replace hS := Lib.hid hS
          have hF' : ∀ j t, j < k + 1 → t < nr j → f j t = mb j t := fun j t h1 h2 => by
            by_cases e : j = k
            · subst e; exact hG t h2
            · exact hF j t (by omega) h2
          replace hF' := Lib.hid hF'
          clear hF hG hm
          cases hnl : nl k
          · rw [rowV_at hnl] at cL
            go_wp2
            exact ⟨⟨k + 1, by omega, by rw [Int.natCast_add]; rfl, f, hS.out, hF'.out⟩, by simp [intOf]; omega⟩
          · rw [rowV_nil hnl] at cL
            have hz : (nr k : Int) = 0 := by have := hA.out.none_ k hk1 hnl; omega
            go_wp2
            exact ⟨⟨k + 1, by omega, by rw [Int.natCast_add]; rfl, f, hS.out, hF'.out⟩, by simp [intOf]; omega⟩
        · have hm1 : m < nr k := by omega
          have hm0 : (0 : Int) ≤ (m : Int) := by omega
          have hm2 : (m : Int) < (nr k : Int) := by omega
          have hnl : nl k = false := by
            cases hnl : nl k
            · rfl
            · have := hA.out.none_ k hk1 hnl; omega
          rw [rowV_at hnl] at cL
          have hmc : ∀ w, Calls Tryz.prog 36 #[.int .i64 k, .int .i64 m] w fun e w' => e = .returned (.int .u8 (mb k m)) ∧ w = w' := fun w => markByte_c k m (by have := hA.out.many; omega) (by have := hA.out.len k hk1; omega) _
          have cR := (hS.row k hk1 hnl).cell m hm1
          have fR := (hS.row k hk1 hnl).frozen m
          obtain ⟨f', hS', hF', hG'⟩ : ∃ f', StB B w L K nl gr nr cr f' ((wr.setCell ⟨gr k, m, none⟩ (.int .u8 (mb k m))).drew) ∧ (∀ j t, j < k → t < nr j → f' j t = mb j t) ∧ ∀ t, t < m + 1 → f' k t = mb k t := by
            have hs1 := hS.set_ hA.out hk1 hnl hm1 (mb k m)
            refine ⟨_, hs1.after (hs1.size hBw) (st_drewB _), fun j t h1 h2 => ?_, fun t h1 => ?_⟩
            · show (if j = k ∧ t = m then mb k m else f j t) = mb j t
              rw [if_neg (by omega)]; exact hF j t h1 h2
            · show (if k = k ∧ t = m then mb k m else f k t) = mb k t
              by_cases e : t = m
              · rw [if_pos ⟨rfl, e⟩, e]
              · rw [if_neg (by omega)]; exact hG t (by omega)
          clear hS hF hG
          replace hS' := Lib.hid hS'
          replace hF' := Lib.hid hF'
          replace hG' := Lib.hid hG'
          replace hmc := Lib.hid hmc
          go_wp2
          go_region_with (first | (refine (hmc.out _).mono ?_; rintro e w1 ⟨rfl, rfl⟩))
          all_goals
            go_wp2
            exact ⟨⟨m + 1, by omega, by rw [Int.natCast_add]; rfl, _, hS'.out, hF'.out, hG'.out⟩, by simp [intOf]; omega⟩
end Go.Proofs.YtiimojhdpmkeoaaGreat
