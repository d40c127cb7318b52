/- The walk of the law GhostKeeps. -/
import Derived.Test.YtdgaoljobpneaaaHw
import Derived.Test.YtdgaoljobpneaaaHo
namespace Go.Proofs.Ytdgaoljobpneaaa
open Go.RowKit
theorem all_slice {B : Nat} {w : World} {v : Value} {L : List RecD} {S : List Nat} (h : AllO RecO 25 7 B w v L) (hS : ∀ g, B ≤ g → g ∉ S) : ∃ p c, v = .slice p L.length c ∧ L.length ≤ c ∧ RecsF S w p L := by
  obtain ⟨p, c, rfl, hp⟩ := all_recs h hS
  refine ⟨p, c, rfl, ?_, hp⟩
  obtain ⟨vs, bls, h1, _⟩ := h
  rcases h1.2 with ⟨e, e2⟩ | ⟨g, cap, cur, e, b1, b2, b3, _⟩
  · omega
  · injection e with _ _ e
    omega
theorem recs_take {S : List Nat} {w : World} {p : Option Addr} {L N : List RecD} (h : RecsF S w p (L ++ N)) : RecsF S w p L := fun hm => by
  obtain ⟨g, o, e, hg, hs, hc⟩ := h (by rw [List.length_append]; omega)
  exact ⟨g, o, e, hg, hs, fun i r hr => hc i r (by rw [List.getElem?_append_left (List.getElem?_eq_some_iff.1 hr).1]; exact hr)⟩
theorem Ext.nil {w w' : World} {S : List Nat} (hb : Below w.heap.size w w') (hS : ∀ g, g ∈ S → w.heap.size ≤ g) : Ext [] w S w' := ⟨hb.os, hb.tape, hb.output, hb.size, fun k hk _ => hb.block k hk, fun k hk => .inr (hS k hk)⟩
theorem GS.lt {B gb : Nat} {w : World} {S : List Nat} {L : List RecD} {M : List RootD} (h : GS B w S gb L M) : ∀ g, g ∈ S → B ≤ g ∧ g < w.heap.size := by
  obtain ⟨_, _, _, _, _, _, g3, _⟩ := h
  exact g3
theorem RecsF.e {S S' : List Nat} {w w' : World} {p : Option Addr} {L : List RecD} (h : RecsF S w p L) (hb : Ext S w S' w') : RecsF S' w' p L := ThF.ext (fun _ _ h => h.ext hb) h hb
theorem RootsF.e {S S' : List Nat} {w w' : World} {p : Option Addr} {L : List RootD} (h : RootsF S w p L) (hb : Ext S w S' w') : RootsF S' w' p L := ThF.ext (fun _ _ h => h.ext hb) h hb
theorem RecsF.f {S : List Nat} {w : World} {p : Option Addr} {L : List RecD} (h : RecsF S w p L) : RecsF [] w p L := RecsF.e h (.of (Below.refl _ _) (fun _ h => by cases h))
theorem rec_len2 {r : RecD} (h : r.n ≤ 2500) : (recT r).length ≤ 1000000 := by
  unfold recT txtL
  split
  · rename_i hs
    have := shB_true hs
    unfold textL
    rw [List.flatten_append, List.length_append, qL_flat]
    simp only [List.flatten_cons, List.flatten_nil, List.append_nil, List.length_append, List.length_cons, List.length_nil, lenL, numL_len]
    omega
  · simp
/-- two rows appended onto a new one -/
theorem own_two {B : Nat} {w : World} {v : Value} {vs vs2 : List Value} {L M : List RecD} {S : List Nat} (h1 : w.ownsRow B 25 7 v (0 + L.length + M.length) ([] ++ vs.flatMap cellsV ++ vs2.flatMap cellsV)) (h2 : RowsR S w vs L) (h3 : RowsR S w vs2 M) (hS : ∀ g, v.ownBlock = some g → g ∉ S) : ∃ p c, v = .slice p (L ++ M).length c ∧ RecsF S w p (L ++ M) :=
  own_recs (vs := vs ++ vs2) (by rw [List.length_append, List.flatMap_append]; rw [Nat.zero_add, List.nil_append] at h1; exact h1) (rowsR_app h2 h3) hS
set_option maxRecDepth 100000 in
set_option maxHeartbeats 40000000 in
theorem ghostKeeps_c (p1 p2 p3 : Option Addr) (c1 c2 c3 : Nat) (L M : List RecD) (R : List RootD) (hL : L.length ≤ 2000000) (hM : M.length ≤ 2000000) (hR : R.length ≤ 2000000) (hfL : ∀ r, r ∈ L ++ M → recFit r ∧ BR r.vs ∧ BR r.ss) (hfR : ∀ r, r ∈ R → rootFit r ∧ BR r.sum ∧ BR r.sig) (w : World)
    (h1 : RecsF [] w p1 L) (h2 : RecsF [] w p2 M) (h3 : RootsF [] w p3 R) :
    Calls Try.prog 4 #[.slice p1 L.length c1, .slice p2 M.length c2, .slice p3 R.length c3] w fun e w' => e = .returned (.bool true) ∧ Below w.heap.size w w' := by
  obtain ⟨vsL, hvL, hcL⟩ := recs_cells h1
  obtain ⟨vsM, hvM, hcM⟩ := recs_cells h2
  obtain ⟨nl, hnl⟩ : ∃ nl, nl = L.length := ⟨_, rfl⟩
  obtain ⟨nm, hnm⟩ : ∃ nm, nm = M.length := ⟨_, rfl⟩
  obtain ⟨nr, hnr⟩ : ∃ nr, nr = R.length := ⟨_, rfl⟩
  rw [← hnl] at hL hcL ⊢
  rw [← hnm] at hM hcM ⊢
  rw [← hnr] at hR ⊢
  obtain ⟨i0, hi0, hz0, hz1, hz2⟩ := info_parts rec_info
  replace hnl := Lib.hid hnl
  replace hnm := Lib.hid hnm
  replace hnr := Lib.hid hnr
  replace hcL := Lib.hid hcL
  replace hcM := Lib.hid hcM
  replace hvL := Lib.hid hvL
  replace hvM := Lib.hid hvM
  replace h1 := Lib.hid h1
  replace h2 := Lib.hid h2
  replace h3 := Lib.hid h3
  replace hfL := Lib.hid hfL
  replace hfR := Lib.hid hfR
  clear hi0 hz0 hz1 hz2
  go_enter Try.func4, Try.ntmps4
  go_wp2_with fail
  refine (awake28_c _).mono ?_
  rintro e w1 ⟨rfl, hb1⟩
  have hb1s := hb1.size
  have ho : (w1.alloc (.cells #[] 25)).ownsRow w.heap.size 25 7 (.slice (some ⟨w1.heap.size, 0, none⟩) 0 0) 0 [] := ⟨rfl, .inr ⟨w1.heap.size, 0, #[], rfl, hb1s, heap_alloc_new w1 _, Nat.le_refl _, Nat.zero_le _, rfl, rfl⟩⟩
  have hba : Below w.heap.size w (w1.alloc (.cells #[] 25)) := hb1.alloc hb1s _
  have hcL1 := hcL.out.below hba
  replace ho := Lib.hid ho
  replace hba := Lib.hid hba
  replace hcL1 := Lib.hid hcL1
  go_wp2_with (first
    | (at_builtin; refine wpList_appRecs rfl rfl rfl ho.out rfl hcL1.out (by omega) (by simp; omega) ?_; intro v2 w2 ho2 hg2 hl2; have hb2 := Lib.hid (hba.out.grown hg2 (by simp; omega) (fun k h => (ho.out.lt k h).1)); have hcM2 := Lib.hid (hcM.out.below hb2.out); replace ho2 := Lib.hid ho2; have hs2 : w.heap.size ≤ w2.heap.size := hb2.out.size; clear hg2 hl2 ho)
    | (at_builtin; refine wpList_appRecs rfl rfl rfl ho2.out rfl hcM2.out (by omega) hs2 ?_; intro v3 w3 ho3 hg3 hl3; have hb3 := Lib.hid (hb2.out.grown hg3 hs2 (fun k h => (ho2.out.lt k h).1)); replace ho3 := Lib.hid ho3; clear hg3 hl3 ho2))
  have ho3' := ho3.out
  rw [hnl.out, hnm.out] at ho3'
  obtain ⟨pg, cg, rfl, hg3⟩ := own_two (S := []) ho3' (hvL.out.ext (.below (hb3.out))) (hvM.out.ext (.below (hb3.out))) (fun _ _ h => by cases h)
  have hgr := great28_c pg p3 cg c3 (L ++ M) R (fun r hr => (hfL.out r hr).1) (fun r hr => (hfR.out r hr).1) (by rw [List.length_append, ← hnl.out, ← hnm.out]; omega) (by rw [← hnr.out]; omega) w3 hg3 (h3.out.e (.below hb3.out))
  rw [← hnr.out] at hgr
  replace hb3 := hb3.out
  refine hgr.mono ?_
  rintro e w4 ⟨rfl, hb4⟩
  have hb04 := hb3.trans (hb4.mono hb3.size)
  clear hgr hg3 ho3' ho3 hb4 hb3 hb2 hcM2 hs2 hcL1 hba hb1 hb1s
  cases hG : greatB28 (L ++ M) R
  · obtain ⟨g1, g2, g3, g4⟩ := greatB_no hG
    have hokL : ∀ r, r ∈ L ++ M → r.ok := fun r hr => recN_ok (g3 r hr) (hfL.out r hr).2.1 (hfL.out r hr).2.2
    have hnb : ∀ r, r ∈ L ++ M → r.n ≤ 2500 := fun r hr => by have := g3 r hr; unfold recN at this; omega
    have hokR : ∀ r, r ∈ R → r.ok := fun r hr => rootN_ok (g4 r hr) (hfR.out r hr).2.1 (hfR.out r hr).2.2
    have hlL : L.length + M.length ≤ 200 := by rw [List.length_append] at g1; exact g1
    have hlR := g2
    replace hnb := Lib.hid hnb
    replace hokL := Lib.hid hokL
    replace hokR := Lib.hid hokR
    replace hlL := Lib.hid hlL
    replace hlR := Lib.hid hlR
    clear g1 g2 g3 g4 hG hfL hfR
    go_wp2_with fail
    refine (new_c _).mono ?_
    rintro e w5 ⟨gb, S0, rfl, hG5, hb5⟩
    have hb05 := hb04.trans (hb5.mono hb04.size)
    have E5 : Ext [] w S0 w5 := Ext.nil hb05 (fun g hg => Nat.le_trans hb04.size (hG5.lt g hg).1)
    have hBw5 := hb5.size
    have hBw := hb04.size
    generalize w4.heap.size = B at *
    replace hG5 := Lib.hid hG5
    replace E5 := Lib.hid E5
    replace hBw5 := Lib.hid hBw5
    clear hb05 hb5
    go_wp2_with fail
    refine (gWrote_c B gb S0 [] [] p1 nl c1 L hnl.out (fun r hr => hokL.out r (List.mem_append_left _ hr)) (by have := hlL.out; simp; omega) w5 hBw5.out hG5.out (h1.out.e E5.out)).mono ?_
    rintro e w6 ⟨rfl, S1, hG6, hE6⟩
    have E6 := Lib.hid (E5.out.trans hE6)
    have hB6 := Lib.hid (Nat.le_trans hBw5.out hE6.size)
    obtain ⟨P1, hP1⟩ : ∃ P1, P1 = putsT recT [] L := ⟨_, rfl⟩
    rw [← hP1] at hG6
    have hP1l : P1.length ≤ 200 := by have := puts_len recT L []; rw [← hP1] at this; have := hlL.out; simp at *; omega
    have hP1k : ∀ r, r ∈ P1 → r.ok := fun r hr => hokL.out r (List.mem_append_left _ ((puts_sublist (T := recT) L).subset (by rw [← hP1]; exact hr)))
    replace hP1l := Lib.hid hP1l
    replace hP1k := Lib.hid hP1k
    replace hP1 := Lib.hid hP1
    replace hG6 := Lib.hid hG6
    clear hE6 hG5 E5 hBw5
    go_wp2_with fail
    refine (gRecords_c B gb S1 P1 [] (by have := hP1l.out; omega) w6 hG6.out).mono ?_
    rintro e w7 ⟨v, rfl, hA7, hb7⟩
    obtain ⟨pw, cw, rfl, -, hw7⟩ := all_slice (S := S1) hA7 (fun g hg hs => by have := (hG6.out.lt g hs).2; omega)
    have hG7 := Lib.hid (hG6.out.below hb7)
    have E7 := Lib.hid (E6.out.trans (.below hb7))
    have hB7 := Lib.hid (Nat.le_trans hB6.out hb7.size)
    obtain ⟨np, hnp⟩ : ∃ np, np = P1.length := ⟨_, rfl⟩
    rw [← hnp]
    replace hnp := Lib.hid hnp
    replace hw7 := Lib.hid hw7
    clear hA7 hb7 hG6 E6 hB6
    go_wp2_with fail
    refine (gWrote_c B gb S1 P1 [] p2 nm c2 M hnm.out (fun r hr => hokL.out r (List.mem_append_right _ hr)) (by have := hlL.out; have := hP1l.out; omega) w7 hB7.out hG7.out (h2.out.e E7.out)).mono ?_
    rintro e w8 ⟨rfl, S2, hG8, hE8⟩
    have E8 := Lib.hid (E7.out.trans hE8)
    have hB8 := Lib.hid (Nat.le_trans hB7.out hE8.size)
    have hw8 := Lib.hid (hw7.out.e hE8)
    obtain ⟨A, hA⟩ : ∃ A, A = putsT recT P1 M := ⟨_, rfl⟩
    rw [← hA] at hG8
    have hAt : A = putsT recT [] (L ++ M) := by rw [hA, hP1.out, puts_app]
    have hAp : ∃ N, A = P1 ++ N := by rw [hA]; exact puts_pre _ _
    have hAl : A.length ≤ 200 := by have := puts_len recT (L ++ M) []; rw [← hAt, List.length_append] at this; have := hlL.out; simp at *; omega
    have hAk : ∀ r, r ∈ A → r.ok := fun r hr => hokL.out r ((puts_sublist (T := recT) (L ++ M)).subset (by rw [← hAt]; exact hr))
    obtain ⟨N, hN⟩ := hAp
    replace hAl := Lib.hid hAl
    replace hAk := Lib.hid hAk
    replace hN := Lib.hid hN
    replace hAt := Lib.hid hAt
    replace hG8 := Lib.hid hG8
    clear hE8 hG7 E7 hB7 hw7 hA hP1
    go_wp2_with fail
    refine (gIssued_c B gb S2 A [] p3 nr c3 R hnr.out hokR.out (by have := hlR.out; simp; omega) w8 hB8.out hG8.out (h3.out.e E8.out)).mono ?_
    rintro e w9 ⟨rfl, S3, hG9, hE9⟩
    have E9 := Lib.hid (E8.out.trans hE9)
    have hB9 := Lib.hid (Nat.le_trans hB8.out hE9.size)
    have hw9 := Lib.hid (hw8.out.e hE9)
    obtain ⟨R1, hR1⟩ : ∃ R1, R1 = putsT rootT [] R := ⟨_, rfl⟩
    rw [← hR1] at hG9
    have hR1l : R1.length ≤ R.length := by have := puts_len rootT R []; rw [← hR1] at this; simpa using this
    have hR1k : ∀ r, r ∈ R1 → r.ok := fun r hr => hokR.out r ((puts_sublist (T := rootT) R).subset (by rw [← hR1]; exact hr))
    replace hR1l := Lib.hid hR1l
    replace hR1k := Lib.hid hR1k
    replace hR1 := Lib.hid hR1
    replace hG9 := Lib.hid hG9
    clear hE9 hG8 E8 hB8 hw8
    go_wp2_with fail
    refine (gRecords_c B gb S3 A R1 (by have := hAl.out; omega) w9 hG9.out).mono ?_
    rintro e w10 ⟨v, rfl, hA10, hb10⟩
    obtain ⟨pa, ca, rfl, hca, ha10⟩ := all_slice (S := S3) hA10 (fun g hg hs => by have := (hG9.out.lt g hs).2; omega)
    have hG10 := Lib.hid (hG9.out.below hb10)
    have E10 := Lib.hid (E9.out.trans (.below hb10))
    have hB10 := Lib.hid (Nat.le_trans hB9.out hb10.size)
    have hw10 := Lib.hid (hw9.out.e (.below hb10))
    obtain ⟨na, hna⟩ : ∃ na, na = A.length := ⟨_, rfl⟩
    rw [← hna] at hca ⊢
    have hnpa : np ≤ na := by rw [hna, hN.out, hnp.out, List.length_append]; omega
    have hna2 : na ≤ 200 := by rw [hna]; exact hAl.out
    replace hna := Lib.hid hna
    replace ha10 := Lib.hid ha10
    clear hA10 hb10 hG9 E9 hB9 hw9
    have hsm := sameRecs_c pa pw ca cw P1 P1 hP1k.out hP1k.out (by have := hP1l.out; omega) (by have := hP1l.out; omega) w10 (recs_take (N := N) (by rw [← hN.out]; exact ha10.out.f)) hw10.out.f
    rw [sameL_self (fun a _ => sameRD_self a), ← hnp.out] at hsm
    replace hsm := Lib.hid hsm
    have hlt1 : ¬ (na : Int) < (np : Int) := by omega
    go_wp2_with fail
    refine hsm.out.mono ?_
    rintro e w11 ⟨rfl, hb11⟩
    have hG11 := Lib.hid (hG10.out.below hb11)
    have E11 := Lib.hid (E10.out.trans (.below hb11))
    have hB11 := Lib.hid (Nat.le_trans hB10.out hb11.size)
    have ha11 := Lib.hid (ha10.out.e (.below hb11))
    clear hsm hlt1 hb11 hG10 E10 hB10 ha10 hw10 hP1l hP1k hnp hN
    have ho : (w11.alloc (.cells #[] 25)).ownsRow w11.heap.size 25 7 (.slice (some ⟨w11.heap.size, 0, none⟩) 0 0) 0 [] := ⟨rfl, .inr ⟨w11.heap.size, 0, #[], rfl, Nat.le_refl _, heap_alloc_new w11 _, Nat.le_refl _, Nat.zero_le _, rfl, rfl⟩⟩
    have hba : Below w11.heap.size w11 (w11.alloc (.cells #[] 25)) := (Below.refl _ _).alloc (Nat.le_refl _) _
    have hblow : ∀ w', Below w11.heap.size w11 w' → Below w.heap.size w w' := fun w' hb => (E11.out.old (Nat.le_refl _) (fun _ h => by cases h)).trans (hb.mono E11.out.size)
    have hcL1 := hcL.out.below (hblow _ hba)
    replace ho := Lib.hid ho
    replace hba := Lib.hid hba
    replace hcL1 := Lib.hid hcL1
    replace hblow := Lib.hid hblow
    go_wp2_with (first
      | (at_builtin; refine wpList_appRecs rfl rfl rfl ho.out rfl hcL1.out (by omega) (by simp) ?_; intro v2 w12 ho2 hg2 hl2; have hb2 := Lib.hid (hba.out.grown hg2 (by simp) (fun k h => (ho.out.lt k h).1)); have hcM2 := Lib.hid (hcM.out.below (hblow.out _ hb2.out)); replace ho2 := Lib.hid ho2; have hs2 : w11.heap.size ≤ w12.heap.size := hb2.out.size; clear hg2 hl2 ho)
      | (at_builtin; refine wpList_appRecs rfl rfl rfl ho2.out rfl hcM2.out (by omega) hs2 ?_; intro v3 w13 ho3 hg3 hl3; have hb3 := Lib.hid (hb2.out.grown hg3 hs2 (fun k h => (ho2.out.lt k h).1)); replace ho3 := Lib.hid ho3; clear hg3 hl3 ho2))
    have ho3' := ho3.out
    rw [hnl.out, hnm.out] at ho3'
    have E13 := Lib.hid (E11.out.trans (.below hb3.out))
    obtain ⟨pt, ct, rfl, ht13⟩ := own_two (S := S3) ho3' (hvL.out.ext E13.out) (hvM.out.ext E13.out) (fun g hg hs => by have := (ho3'.lt g hg).1; have := (hG11.out.lt g hs).2; omega)
    have hG13 := Lib.hid (hG11.out.below hb3.out)
    have hB13 := Lib.hid (Nat.le_trans hB11.out hb3.out.size)
    have ha13 := Lib.hid (ha11.out.e (.below hb3.out))
    obtain ⟨D, hD⟩ : ∃ D, D = L ++ M := ⟨_, rfl⟩
    obtain ⟨nt, hnt⟩ : ∃ nt, nt = (L ++ M).length := ⟨_, rfl⟩
    rw [← hnt]
    rw [← hD] at hnt ht13
    rw [← hD] at hokL hAt hnb
    have hnt2 : nt ≤ 200 := by have := hlL.out; rw [hnt, hD, List.length_append]; omega
    replace hnt := Lib.hid hnt
    replace ht13 := Lib.hid ht13
    clear ho3' ho3 hb3 hb2 hcM2 hs2 hcL1 hba hblow hG11 E11 hB11 ha11 hvL hvM hcL hcM hD h1 h2 hnl hnm hL hM
    go_loopw [11] (fun i wr => ∃ k : Nat, k ≤ nt ∧ i = .int .i64 k ∧ Below w13.heap.size w13 wr) (fun i _ => (nt - intOf i).toNat)
    case atStart => exact ⟨0, by omega, rfl, Below.refl _ _⟩
    case round =>
      obtain ⟨k, hk, hi, hb0⟩ := hrel
      subst hi
      by_cases he : k = nt
      · subst he
        clear hk
        have hAp : Apart1 recT A := by rw [hAt.out]; exact puts_apart D [] List.Pairwise.nil
        have hAs : A.Sublist D := by rw [hAt.out]; exact puts_sublist D
        have hAn : ∀ r, r ∈ A → (recT r).length ≤ 1000000 := fun r hr => rec_len2 (hnb.out r (hAs.subset hr))
        replace hAp := Lib.hid hAp
        replace hAs := Lib.hid hAs
        replace hAn := Lib.hid hAn
        have hna3 := hna
        go_wp2
        go_loopw [12, 13] (fun u v wr => ∃ x y : Nat, x ≤ k ∧ y ≤ na ∧ u = .int .i64 x ∧ v = .int .i64 y ∧ (A.drop y).Sublist (D.drop x) ∧ Below w13.heap.size w13 wr) (fun _ v _ => (na - intOf v).toNat)
        case atStart => exact ⟨0, 0, by omega, by omega, rfl, rfl, by simpa using hAs.out, hb0⟩
        case round =>
          clear hb0
          obtain ⟨x, y, hx, hy, hu, hv, hsub, hb0⟩ := hrel
          subst hu hv
          by_cases he : y = na
          · subst he
            clear hy hsub hx
            have hr13 := Lib.hid (h3.out.e E13.out)
            go_wp2
            go_loopw [15] (fun u wr => ∃ z : Nat, z ≤ nr ∧ u = .int .i64 z ∧ Below w13.heap.size w13 wr) (fun u _ => (nr - intOf u).toNat)
            case atStart => exact ⟨0, by omega, rfl, hb0⟩
            case round =>
              clear hb0
              obtain ⟨z, hz, hu, hb0⟩ := hrel
              subst hu
              by_cases he : z = nr
              · subst he
                clear hz
                go_wp2_with fail
                have hGw := Lib.hid (hG13.out.below hb0)
                have hE0 := Lib.hid (E13.out.trans (.below hb0))
                have hBw2 := Lib.hid (Nat.le_trans hB13.out hb0.size)
                have haw := Lib.hid (ha13.out.e (.below hb0))
                have htw := Lib.hid (ht13.out.e (.below hb0))
                refine (gRoots_c B gb S3 A R1 (by have := hR1l.out; have := hlR.out; omega) wr hGw.out).mono ?_
                rintro e w14 ⟨v, rfl, hA14, hb14⟩
                obtain ⟨pr, cr, rfl, hr14⟩ := all_roots (S := S3) hA14 (fun g hg hs => by have := (hGw.out.lt g hs).2; omega)
                obtain ⟨n1, hn1⟩ : ∃ n1, n1 = R1.length := ⟨_, rfl⟩
                rw [← hn1]
                have hn1z : n1 ≤ z := by have := hR1l.out; rw [hn1, hnr.out]; exact this
                replace hn1 := Lib.hid hn1
                replace hr14 := Lib.hid hr14
                have hb04' := hb0.trans (hb14.mono hb0.size)
                have hG14 := Lib.hid (hGw.out.below hb14)
                have hE14 := Lib.hid (hE0.out.trans (.below hb14))
                have hB14 := Lib.hid (Nat.le_trans hBw2.out hb14.size)
                have ha14 := Lib.hid (haw.out.e (.below hb14))
                have ht14 := Lib.hid (htw.out.e (.below hb14))
                clear hGw hE0 hBw2 haw htw hA14 hb14 hb0
                go_wp2_with fail
                refine (gWrote_c B gb S3 A R1 pt k ct D hnt.out hokL.out (by have := hAl.out; have := hnt.out; omega) w14 hB14.out hG14.out ht14.out).mono ?_
                rintro e w15 ⟨rfl, S4, hG15, hE15⟩
                rw [show putsT recT A D = A by rw [hAt.out, puts_told]] at hG15
                have E15 := Lib.hid (hE14.out.trans hE15)
                have hB15 := Lib.hid (Nat.le_trans hB14.out hE15.size)
                have ha15 := Lib.hid (ha14.out.e hE15)
                have hr15 := Lib.hid (hr14.out.e hE15)
                replace hG15 := Lib.hid hG15
                clear hE15 hG14 hE14 hB14 ha14 ht14 hr14
                go_wp2_with fail
                refine (gIssued_c B gb S4 A R1 p3 z c3 R hnr.out hokR.out (by have := hR1l.out; have := hlR.out; omega) w15 hB15.out hG15.out (h3.out.e E15.out)).mono ?_
                rintro e w16 ⟨rfl, S5, hG16, hE16⟩
                rw [show putsT rootT R1 R = R1 by rw [hR1.out, puts_told]] at hG16
                have hB16 := Lib.hid (Nat.le_trans hB15.out hE16.size)
                have ha16 := Lib.hid (ha15.out.e hE16)
                have hr16 := Lib.hid (hr15.out.e hE16)
                have E16 := Lib.hid (E15.out.trans hE16)
                replace hG16 := Lib.hid hG16
                clear hE16 hG15 E15 hB15 ha15 hr15
                go_wp2_with fail
                refine (gRecords_c B gb S5 A R1 (by have := hAl.out; omega) w16 hG16.out).mono ?_
                rintro e w17 ⟨v, rfl, hA17, hb17⟩
                obtain ⟨pv, cv, rfl, -, hv17⟩ := all_slice (S := []) hA17 (fun _ _ h => by cases h)
                have hG17 := Lib.hid (hG16.out.below hb17)
                have hsm := sameRecs_c pv pa cv ca A A hAk.out hAk.out (by have := hAl.out; omega) (by have := hAl.out; omega) w17 hv17 (ha16.out.e (.below hb17)).f
                rw [sameL_self (fun a _ => sameRD_self a), ← hna.out] at hsm
                rw [← hna.out]
                replace hsm := Lib.hid hsm
                have hr17 := Lib.hid (hr16.out.e (.below hb17))
                have E17 := Lib.hid (E16.out.trans (.below hb17))
                clear hA17 hb17 hG16 ha16 hr16 hB16 hv17 E16
                go_wp2_with fail
                refine hsm.out.mono ?_
                rintro e w18 ⟨rfl, hb18⟩
                have hG18 := Lib.hid (hG17.out.below hb18)
                have hr18 := Lib.hid (hr17.out.e (.below hb18))
                have E18 := Lib.hid (E17.out.trans (.below hb18))
                clear hG17 hr17 hb18 hsm E17
                go_wp2_with fail
                refine (gRoots_c B gb S5 A R1 (by have := hR1l.out; have := hlR.out; omega) w18 hG18.out).mono ?_
                rintro e w19 ⟨v, rfl, hA19, hb19⟩
                obtain ⟨pu, cu, rfl, hu19⟩ := all_roots (S := []) hA19 (fun _ _ h => by cases h)
                have hst := sameRoots_c pu pr cu cr R1 R1 hR1k.out hR1k.out (by have := hR1l.out; have := hlR.out; omega) (by have := hR1l.out; have := hlR.out; omega) w19 hu19 ((hr18.out.e (.below hb19)).e (.of (Below.refl _ _) (fun _ h => by cases h)))
                rw [sameL_self (fun a _ => sameTD_self a), ← hn1.out] at hst
                rw [← hn1.out]
                replace hst := Lib.hid hst
                have E19 := Lib.hid (E18.out.trans (.below hb19))
                clear hA19 hb19 hG18 hr18 hu19 E18
                go_wp2_with fail
                refine hst.out.mono ?_
                rintro e w20 ⟨rfl, hb20⟩
                have hfin := Lib.hid ((E19.out.trans (.below hb20)).old (Nat.le_refl _) (fun _ h => by cases h))
                go_wp2
                go_returns
                exact ⟨rfl, hfin.out⟩
              · have hz0 : (0 : Int) ≤ (z : Int) := by omega
                have hz1 : (z : Int) < (nr : Int) := by omega
                have hzR : z < R.length := by have := hnr.out; omega
                obtain ⟨gr, og, rfl, hgr, -, hcr⟩ := hr13.out (by omega)
                have er := List.getElem?_eq_getElem hzR
                generalize R[z] = r at er
                obtain ⟨va, hva, hjr⟩ := hcr z r er
                have hrm := List.mem_of_getElem? er
                have hrk := hokR.out r hrm
                have hha := fun w1 (hb : Below w13.heap.size w13 w1) => gHasRoot_c B gb S3 A R1 r va hrk w1 (hG13.out.below hb) ((hva.ext (.below hb)).ext (S' := []) (.of (Below.refl _ _) (fun _ h => by cases h)))
                rw [hR1.out, puts_is R r hrm] at hha
                obtain ⟨q1, d1, q2, d2, rfl, v1, -⟩ := hva
                have htx := fun w1 (hb : Below w13.heap.size w13 w1) => (rootText_o r.r r.h r.q q1 r.sum.length d1 q2 r.sig.length d2 r.sum rfl w1 (v1.b.below hb)).mono fun _ _ h => h.l
                change ∀ w1, Below w13.heap.size w13 w1 → Calls _ _ _ w1 (PostL (rootT r) w1) at htx
                have hS : ∀ w1, Below w13.heap.size w13 w1 → w1.cell? ⟨gr, og + z * 5, none⟩ = some (.int .i64 r.r) ∧ w1.cell? ⟨gr, og + z * 5 + 1, none⟩ = some (.int .i64 r.h) ∧ w1.cell? ⟨gr, og + z * 5 + 2, none⟩ = some (.int .i64 r.q) ∧ w1.cell? ⟨gr, og + z * 5 + 3, none⟩ = some (.slice q1 r.sum.length d1) ∧ w1.cell? ⟨gr, og + z * 5 + 4, none⟩ = some (.slice q2 r.sig.length d2) := fun w1 hb => ⟨(hb.cell (p := ⟨gr, og + z * 5, none⟩) hgr).trans (hjr 0 _ rfl), (hb.cell (p := ⟨gr, og + z * 5 + 1, none⟩) hgr).trans (hjr 1 _ rfl), (hb.cell (p := ⟨gr, og + z * 5 + 2, none⟩) hgr).trans (hjr 2 _ rfl), (hb.cell (p := ⟨gr, og + z * 5 + 3, none⟩) hgr).trans (hjr 3 _ rfl), (hb.cell (p := ⟨gr, og + z * 5 + 4, none⟩) hgr).trans (hjr 4 _ rfl)⟩
                unfold rootV at hha
                replace hS := Lib.hid hS
                replace htx := Lib.hid htx
                clear he hcr hjr hzR er hrm hrk v1
                by_cases hT : rootT r = []
                · rw [decide_eq_false (fun h => h hT)] at hha
                  rw [hT] at htx
                  replace hha := Lib.hid hha
                  clear hT
                  go_wp2
                  go_region_held3 (fun w1 => w1.cell? ⟨gr, og + z * 5, none⟩ = some (.int .i64 r.r) ∧ w1.cell? ⟨gr, og + z * 5 + 1, none⟩ = some (.int .i64 r.h) ∧ w1.cell? ⟨gr, og + z * 5 + 2, none⟩ = some (.int .i64 r.q) ∧ w1.cell? ⟨gr, og + z * 5 + 3, none⟩ = some (.slice q1 r.sum.length d1) ∧ w1.cell? ⟨gr, og + z * 5 + 4, none⟩ = some (.slice q2 r.sig.length d2)) (first | exact hS.out _ hb6 | exact hS.out _ hb4 | exact hS.out _ hb0 | exact hS.out _ hb0.drew) (first | (go_at_call 9; refine (hha.out _ hb0.drew).mono ?_; rintro e w4 ⟨rfl, hb3⟩; have hb4 := hb0.drew.trans (hb3.mono hb0.size); clear hb3 hha) | (go_at_call 19; refine (htx.out _ hb4).mono ?_; rintro e w5 ⟨p5, n5, c5, rfl, hn5, -, hb5, -⟩; have hb6 := hb4.trans (hb5.mono hb4.size); have hn7 : n5 = 0 := hn5; clear hb5 htx hn5; subst hn7))
                  all_goals
                    go_wp2
                    exact ⟨⟨z + 1, by omega, rfl, hb6⟩, by simp [intOf]; omega⟩
                · rw [decide_eq_true hT] at hha
                  have hTl : 0 < (rootT r).length := List.length_pos_iff.2 hT
                  obtain ⟨X, hX⟩ : ∃ X, X = rootT r := ⟨_, rfl⟩
                  rw [← hX] at htx hTl
                  replace hha := Lib.hid hha
                  replace hTl := Lib.hid hTl
                  clear hT hX
                  go_wp2
                  go_region_held3 (fun w1 => w1.cell? ⟨gr, og + z * 5, none⟩ = some (.int .i64 r.r) ∧ w1.cell? ⟨gr, og + z * 5 + 1, none⟩ = some (.int .i64 r.h) ∧ w1.cell? ⟨gr, og + z * 5 + 2, none⟩ = some (.int .i64 r.q) ∧ w1.cell? ⟨gr, og + z * 5 + 3, none⟩ = some (.slice q1 r.sum.length d1) ∧ w1.cell? ⟨gr, og + z * 5 + 4, none⟩ = some (.slice q2 r.sig.length d2)) (first | exact hS.out _ hb6 | exact hS.out _ hb4 | exact hS.out _ hb0 | exact hS.out _ hb0.drew) (first | (go_at_call 9; refine (hha.out _ hb0.drew).mono ?_; rintro e w4 ⟨rfl, hb3⟩; have hb4 := hb0.drew.trans (hb3.mono hb0.size); clear hb3 hha) | (go_at_call 19; refine (htx.out _ hb4).mono ?_; rintro e w5 ⟨p5, n5, c5, rfl, hn5, -, hb5, -⟩; have hn6 : 0 < n5 := (by have := hTl.out; omega); have hb6 := hb4.trans (hb5.mono hb4.size); clear hb5 htx hn5))
                  all_goals
                    go_wp2
                    exact ⟨⟨z + 1, by omega, rfl, hb6⟩, by simp [intOf]; omega⟩
          · have hy0 : (0 : Int) ≤ (y : Int) := by omega
            have hy1 : (y : Int) < (na : Int) := by omega
            have hyA : y < A.length := by have := hna.out; omega
            obtain ⟨ga, oa, rfl, hga, -, hca2⟩ := ha13.out (by omega)
            have eb := List.getElem?_eq_getElem hyA
            generalize A[y] = b at eb
            obtain ⟨vb, hvb, hjb⟩ := hca2 y b eb
            have hbm := List.mem_of_getElem? eb
            have hbk := hAk.out b hbm
            have hnext := Lib.hid (fun (x : Nat) (h : (A.drop y).Sublist (D.drop x)) => sub_next h)
            have hvb2 := Lib.hid hvb
            obtain ⟨s1, e1, s2, e2, s3, e3, rfl, u1, u2, -⟩ := hvb
            have htb := fun w1 (hb : Below w13.heap.size w13 w1) => recText_c b.k b.cl b.sq s1 b.n e1 b.gone s2 b.vs.length e2 s3 b.ss.length e3 b.ds b.vs (by have := hbk.1; omega) rfl w1 (u1.d.below hb) (u2.b.below hb)
            change ∀ w1, Below w13.heap.size w13 w1 → Calls _ _ _ w1 (PostL (recT b) w1) at htb
            have hbl := hAn.out b hbm
            replace htb := Lib.hid htb
            replace hbl := Lib.hid hbl
            replace hsub := Lib.hid hsub
            replace eb := Lib.hid eb
            replace hjb := Lib.hid hjb
            replace hca2 := Lib.hid hca2
            replace hbk := Lib.hid hbk
            clear he u1 u2 hbm hyA
            go_wp2
            go_loopw [12] (fun u wr => ∃ x : Nat, x ≤ k ∧ u = .int .i64 x ∧ (A.drop y).Sublist (D.drop x) ∧ Below w13.heap.size w13 wr) (fun u _ => (k - intOf u).toNat)
            case atStart => exact ⟨x, hx, rfl, hsub.out, hb0⟩
            case round =>
              clear hsub hb0 hx
              obtain ⟨x, hx, hu, hsub, hb0⟩ := hrel
              subst hu
              have hxD := sub_some hsub eb.out
              have hxk : x < k := by have := hnt.out; omega
              have hx0 : (0 : Int) ≤ (x : Int) := by omega
              have hx1 : (x : Int) < (k : Int) := by omega
              obtain ⟨gt, ot, rfl, hgt, -, hct⟩ := ht13.out (by omega)
              have ea := List.getElem?_eq_getElem hxD
              generalize D[x] = a at ea
              obtain ⟨va, hva, hja⟩ := hct x a ea
              have hak := hokL.out a (List.mem_of_getElem? ea)
              have hsr := fun w1 (hb : Below w13.heap.size w13 w1) => sameRecD_c a b va _ hak hbk.out w1 ((hva.ext (.below hb)).ext (S' := []) (.of (Below.refl _ _) (fun _ h => by cases h))) ((hvb2.out.ext (.below hb)).ext (S' := []) (.of (Below.refl _ _) (fun _ h => by cases h)))
              have hskip : sameRD a b = false → (A.drop y).Sublist (D.drop (x + 1)) := fun h => sub_skip hsub eb.out ea (fun e => by rw [← e, sameRD_self] at h; cases h)
              obtain ⟨q1, d1, q2, d2, q3, d3, rfl, -, -, -⟩ := hva
              have hS : ∀ w1, Below w13.heap.size w13 w1 → (w1.cell? ⟨gt, ot + x * 7, none⟩ = some (.string a.k) ∧ w1.cell? ⟨gt, ot + x * 7 + 1, none⟩ = some (.int .i64 a.cl) ∧ w1.cell? ⟨gt, ot + x * 7 + 2, none⟩ = some (.int .i64 a.sq) ∧ w1.cell? ⟨gt, ot + x * 7 + 3, none⟩ = some (.slice q1 a.n d1) ∧ w1.cell? ⟨gt, ot + x * 7 + 4, none⟩ = some (.bool a.gone) ∧ w1.cell? ⟨gt, ot + x * 7 + 5, none⟩ = some (.slice q2 a.vs.length d2) ∧ w1.cell? ⟨gt, ot + x * 7 + 6, none⟩ = some (.slice q3 a.ss.length d3)) ∧ (w1.cell? ⟨ga, oa + y * 7, none⟩ = some (.string b.k) ∧ w1.cell? ⟨ga, oa + y * 7 + 1, none⟩ = some (.int .i64 b.cl) ∧ w1.cell? ⟨ga, oa + y * 7 + 2, none⟩ = some (.int .i64 b.sq) ∧ w1.cell? ⟨ga, oa + y * 7 + 3, none⟩ = some (.slice s1 b.n e1) ∧ w1.cell? ⟨ga, oa + y * 7 + 4, none⟩ = some (.bool b.gone) ∧ w1.cell? ⟨ga, oa + y * 7 + 5, none⟩ = some (.slice s2 b.vs.length e2) ∧ w1.cell? ⟨ga, oa + y * 7 + 6, none⟩ = some (.slice s3 b.ss.length e3)) := fun w1 hb => ⟨⟨(hb.cell (p := ⟨gt, ot + x * 7, none⟩) hgt).trans (hja 0 _ rfl), (hb.cell (p := ⟨gt, ot + x * 7 + 1, none⟩) hgt).trans (hja 1 _ rfl), (hb.cell (p := ⟨gt, ot + x * 7 + 2, none⟩) hgt).trans (hja 2 _ rfl), (hb.cell (p := ⟨gt, ot + x * 7 + 3, none⟩) hgt).trans (hja 3 _ rfl), (hb.cell (p := ⟨gt, ot + x * 7 + 4, none⟩) hgt).trans (hja 4 _ rfl), (hb.cell (p := ⟨gt, ot + x * 7 + 5, none⟩) hgt).trans (hja 5 _ rfl), (hb.cell (p := ⟨gt, ot + x * 7 + 6, none⟩) hgt).trans (hja 6 _ rfl)⟩, ⟨(hb.cell (p := ⟨ga, oa + y * 7, none⟩) hga).trans (hjb 0 _ rfl), (hb.cell (p := ⟨ga, oa + y * 7 + 1, none⟩) hga).trans (hjb 1 _ rfl), (hb.cell (p := ⟨ga, oa + y * 7 + 2, none⟩) hga).trans (hjb 2 _ rfl), (hb.cell (p := ⟨ga, oa + y * 7 + 3, none⟩) hga).trans (hjb 3 _ rfl), (hb.cell (p := ⟨ga, oa + y * 7 + 4, none⟩) hga).trans (hjb 4 _ rfl), (hb.cell (p := ⟨ga, oa + y * 7 + 5, none⟩) hga).trans (hjb 5 _ rfl), (hb.cell (p := ⟨ga, oa + y * 7 + 6, none⟩) hga).trans (hjb 6 _ rfl)⟩⟩
              replace hjb := hjb.out
              have hS2 := Lib.hid hS
              unfold recV at hsr
              replace hskip := Lib.hid hskip
              replace hsub := Lib.hid hsub
              clear hct hja hak ea hxD hS
              cases hq : sameRD a b
              · have hsk := Lib.hid (hskip.out hq)
                rw [hq] at hsr
                replace hsr := Lib.hid hsr
                clear hq hskip hsub
                go_wp2
                go_region_held3 (fun w1 => (w1.cell? ⟨gt, ot + x * 7, none⟩ = some (.string a.k) ∧ w1.cell? ⟨gt, ot + x * 7 + 1, none⟩ = some (.int .i64 a.cl) ∧ w1.cell? ⟨gt, ot + x * 7 + 2, none⟩ = some (.int .i64 a.sq) ∧ w1.cell? ⟨gt, ot + x * 7 + 3, none⟩ = some (.slice q1 a.n d1) ∧ w1.cell? ⟨gt, ot + x * 7 + 4, none⟩ = some (.bool a.gone) ∧ w1.cell? ⟨gt, ot + x * 7 + 5, none⟩ = some (.slice q2 a.vs.length d2) ∧ w1.cell? ⟨gt, ot + x * 7 + 6, none⟩ = some (.slice q3 a.ss.length d3)) ∧ (w1.cell? ⟨ga, oa + y * 7, none⟩ = some (.string b.k) ∧ w1.cell? ⟨ga, oa + y * 7 + 1, none⟩ = some (.int .i64 b.cl) ∧ w1.cell? ⟨ga, oa + y * 7 + 2, none⟩ = some (.int .i64 b.sq) ∧ w1.cell? ⟨ga, oa + y * 7 + 3, none⟩ = some (.slice s1 b.n e1) ∧ w1.cell? ⟨ga, oa + y * 7 + 4, none⟩ = some (.bool b.gone) ∧ w1.cell? ⟨ga, oa + y * 7 + 5, none⟩ = some (.slice s2 b.vs.length e2) ∧ w1.cell? ⟨ga, oa + y * 7 + 6, none⟩ = some (.slice s3 b.ss.length e3))) (first | exact hS2.out _ hb4 | exact hS2.out _ hb0 | exact hS2.out _ hb0.drew) (first | (go_at_call 17; refine (hsr.out _ hb0.drew).mono ?_; rintro e w4 ⟨rfl, hb3⟩; have hb4 := hb0.drew.trans (hb3.mono hb0.size); clear hb3 hsr))
                all_goals
                  go_wp2
                  exact ⟨⟨x + 1, by omega, rfl, hsk.out, hb4⟩, by simp [intOf]; omega⟩
              · rw [hq] at hsr
                replace hsr := Lib.hid hsr
                have hxe : ((x : Int) == (k : Int)) = false := by simp; omega
                clear hq hskip
                go_wp2
                go_region_held3 (fun w1 => (w1.cell? ⟨gt, ot + x * 7, none⟩ = some (.string a.k) ∧ w1.cell? ⟨gt, ot + x * 7 + 1, none⟩ = some (.int .i64 a.cl) ∧ w1.cell? ⟨gt, ot + x * 7 + 2, none⟩ = some (.int .i64 a.sq) ∧ w1.cell? ⟨gt, ot + x * 7 + 3, none⟩ = some (.slice q1 a.n d1) ∧ w1.cell? ⟨gt, ot + x * 7 + 4, none⟩ = some (.bool a.gone) ∧ w1.cell? ⟨gt, ot + x * 7 + 5, none⟩ = some (.slice q2 a.vs.length d2) ∧ w1.cell? ⟨gt, ot + x * 7 + 6, none⟩ = some (.slice q3 a.ss.length d3)) ∧ (w1.cell? ⟨ga, oa + y * 7, none⟩ = some (.string b.k) ∧ w1.cell? ⟨ga, oa + y * 7 + 1, none⟩ = some (.int .i64 b.cl) ∧ w1.cell? ⟨ga, oa + y * 7 + 2, none⟩ = some (.int .i64 b.sq) ∧ w1.cell? ⟨ga, oa + y * 7 + 3, none⟩ = some (.slice s1 b.n e1) ∧ w1.cell? ⟨ga, oa + y * 7 + 4, none⟩ = some (.bool b.gone) ∧ w1.cell? ⟨ga, oa + y * 7 + 5, none⟩ = some (.slice s2 b.vs.length e2) ∧ w1.cell? ⟨ga, oa + y * 7 + 6, none⟩ = some (.slice s3 b.ss.length e3))) (first | exact hS2.out _ hb4 | exact hS2.out _ hb0 | exact hS2.out _ hb0.drew) (first | (go_at_call 17; refine (hsr.out _ hb0.drew).mono ?_; rintro e w4 ⟨rfl, hb3⟩; have hb4 := hb0.drew.trans (hb3.mono hb0.size); clear hb3 hsr))
                all_goals
                  clear hb0 hS2
                  go_wp2
                  go_loopw [14] (fun u wr => ∃ z : Nat, z ≤ y ∧ u = .int .i64 z ∧ Below w13.heap.size w13 wr) (fun u _ => (y - intOf u).toNat)
                  case atStart => exact ⟨0, by omega, rfl, hb4⟩
                  case round =>
                    clear hb4
                    obtain ⟨z, hz, hu, hb0⟩ := hrel
                    subst hu
                    by_cases he : z = y
                    · subst he
                      have hsb := Lib.hid (hnext.out x hsub.out)
                      clear hz hjb hsub
                      go_wp2
                      exact ⟨⟨x, z + 1, by omega, by omega, rfl, rfl, hsb.out, hb0⟩, by simp [intOf]; omega⟩
                    · have hz0 : (0 : Int) ≤ (z : Int) := by omega
                      have hz1 : (z : Int) < (y : Int) := by omega
                      have hz2 : (z : Int) < (na : Int) := by omega
                      have hzA : z < A.length := by have := hna.out; omega
                      have ec := List.getElem?_eq_getElem hzA
                      have hpw := List.pairwise_iff_getElem.1 hAp.out z y hzA (by have := hna.out; omega) (by omega)
                      have hyy : A[y]'(by have := hna.out; omega) = b := by have := eb.out; rw [List.getElem?_eq_getElem (by have := hna.out; omega)] at this; exact Option.some.inj this
                      rw [hyy] at hpw
                      clear hyy
                      generalize A[z] = c at ec hpw
                      obtain ⟨vc, hvc, hjc⟩ := hca2.out z c ec
                      have hcm := List.mem_of_getElem? ec
                      have hck := hAk.out c hcm
                      have hcl := hAn.out c hcm
                      obtain ⟨t1, f1, t2, f2, t3, f3, rfl, u1, u2, -⟩ := hvc
                      have htc := fun w1 (hb : Below w13.heap.size w13 w1) => recText_c c.k c.cl c.sq t1 c.n f1 c.gone t2 c.vs.length f2 t3 c.ss.length f3 c.ds c.vs (by have := hck.1; omega) rfl w1 (u1.d.below hb) (u2.b.below hb)
                      change ∀ w1, Below w13.heap.size w13 w1 → Calls _ _ _ w1 (PostL (recT c) w1) at htc
                      have hS3 : ∀ w1, Below w13.heap.size w13 w1 → (w1.cell? ⟨ga, oa + z * 7, none⟩ = some (.string c.k) ∧ w1.cell? ⟨ga, oa + z * 7 + 1, none⟩ = some (.int .i64 c.cl) ∧ w1.cell? ⟨ga, oa + z * 7 + 2, none⟩ = some (.int .i64 c.sq) ∧ w1.cell? ⟨ga, oa + z * 7 + 3, none⟩ = some (.slice t1 c.n f1) ∧ w1.cell? ⟨ga, oa + z * 7 + 4, none⟩ = some (.bool c.gone) ∧ w1.cell? ⟨ga, oa + z * 7 + 5, none⟩ = some (.slice t2 c.vs.length f2) ∧ w1.cell? ⟨ga, oa + z * 7 + 6, none⟩ = some (.slice t3 c.ss.length f3)) ∧ (w1.cell? ⟨ga, oa + y * 7, none⟩ = some (.string b.k) ∧ w1.cell? ⟨ga, oa + y * 7 + 1, none⟩ = some (.int .i64 b.cl) ∧ w1.cell? ⟨ga, oa + y * 7 + 2, none⟩ = some (.int .i64 b.sq) ∧ w1.cell? ⟨ga, oa + y * 7 + 3, none⟩ = some (.slice s1 b.n e1) ∧ w1.cell? ⟨ga, oa + y * 7 + 4, none⟩ = some (.bool b.gone) ∧ w1.cell? ⟨ga, oa + y * 7 + 5, none⟩ = some (.slice s2 b.vs.length e2) ∧ w1.cell? ⟨ga, oa + y * 7 + 6, none⟩ = some (.slice s3 b.ss.length e3)) := fun w1 hb => ⟨⟨(hb.cell (p := ⟨ga, oa + z * 7, none⟩) hga).trans (hjc 0 _ rfl), (hb.cell (p := ⟨ga, oa + z * 7 + 1, none⟩) hga).trans (hjc 1 _ rfl), (hb.cell (p := ⟨ga, oa + z * 7 + 2, none⟩) hga).trans (hjc 2 _ rfl), (hb.cell (p := ⟨ga, oa + z * 7 + 3, none⟩) hga).trans (hjc 3 _ rfl), (hb.cell (p := ⟨ga, oa + z * 7 + 4, none⟩) hga).trans (hjc 4 _ rfl), (hb.cell (p := ⟨ga, oa + z * 7 + 5, none⟩) hga).trans (hjc 5 _ rfl), (hb.cell (p := ⟨ga, oa + z * 7 + 6, none⟩) hga).trans (hjc 6 _ rfl)⟩, ⟨(hb.cell (p := ⟨ga, oa + y * 7, none⟩) hga).trans (hjb 0 _ rfl), (hb.cell (p := ⟨ga, oa + y * 7 + 1, none⟩) hga).trans (hjb 1 _ rfl), (hb.cell (p := ⟨ga, oa + y * 7 + 2, none⟩) hga).trans (hjb 2 _ rfl), (hb.cell (p := ⟨ga, oa + y * 7 + 3, none⟩) hga).trans (hjb 3 _ rfl), (hb.cell (p := ⟨ga, oa + y * 7 + 4, none⟩) hga).trans (hjb 4 _ rfl), (hb.cell (p := ⟨ga, oa + y * 7 + 5, none⟩) hga).trans (hjb 5 _ rfl), (hb.cell (p := ⟨ga, oa + y * 7 + 6, none⟩) hga).trans (hjb 6 _ rfl)⟩⟩
                      have heq : eqL (recT c) (recT b) = false := decide_eq_false hpw
                      have htb2 := htb.out
                      have hbl2 := hbl.out
                      obtain ⟨X, hX⟩ : ∃ X, X = recT c := ⟨_, rfl⟩
                      obtain ⟨Y, hY⟩ : ∃ Y, Y = recT b := ⟨_, rfl⟩
                      rw [← hX] at htc heq hcl
                      rw [← hY] at htb2 heq hbl2
                      have hsb0 := fun p n c p' n' c' w1 h1 h2 h3 h4 => sameBytes_c p p' n c n' c' X Y h1 h2 (by rw [h1]; exact hcl) (by rw [h2]; exact hbl2) w1 h3 h4
                      rw [heq] at hsb0
                      replace hsb0 := Lib.hid hsb0
                      replace htc := Lib.hid htc
                      replace htb2 := Lib.hid htb2
                      replace hS3 := Lib.hid hS3
                      clear he hpw hcm hck hcl u1 u2 heq hX hY hzA ec hjc hbl2 hz
                      go_wp2
                      go_region_held3 (fun w1 => (w1.cell? ⟨ga, oa + z * 7, none⟩ = some (.string c.k) ∧ w1.cell? ⟨ga, oa + z * 7 + 1, none⟩ = some (.int .i64 c.cl) ∧ w1.cell? ⟨ga, oa + z * 7 + 2, none⟩ = some (.int .i64 c.sq) ∧ w1.cell? ⟨ga, oa + z * 7 + 3, none⟩ = some (.slice t1 c.n f1) ∧ w1.cell? ⟨ga, oa + z * 7 + 4, none⟩ = some (.bool c.gone) ∧ w1.cell? ⟨ga, oa + z * 7 + 5, none⟩ = some (.slice t2 c.vs.length f2) ∧ w1.cell? ⟨ga, oa + z * 7 + 6, none⟩ = some (.slice t3 c.ss.length f3)) ∧ (w1.cell? ⟨ga, oa + y * 7, none⟩ = some (.string b.k) ∧ w1.cell? ⟨ga, oa + y * 7 + 1, none⟩ = some (.int .i64 b.cl) ∧ w1.cell? ⟨ga, oa + y * 7 + 2, none⟩ = some (.int .i64 b.sq) ∧ w1.cell? ⟨ga, oa + y * 7 + 3, none⟩ = some (.slice s1 b.n e1) ∧ w1.cell? ⟨ga, oa + y * 7 + 4, none⟩ = some (.bool b.gone) ∧ w1.cell? ⟨ga, oa + y * 7 + 5, none⟩ = some (.slice s2 b.vs.length e2) ∧ w1.cell? ⟨ga, oa + y * 7 + 6, none⟩ = some (.slice s3 b.ss.length e3))) (first | exact hS3.out _ hb9 | exact hS3.out _ hb7 | exact hS3.out _ hb4 | exact hS3.out _ hb0 | exact hS3.out _ hb0.drew) (first | (go_at_call 16; refine (htc.out _ hb0.drew).mono ?_; rintro e w4 ⟨p5, n5, c5, rfl, hn5, hR5, hb5, -⟩; replace hn5 := Lib.hid hn5; have hb4 := hb0.drew.trans (hb5.mono hb0.size); clear htc hb5) | (go_at_call 16; refine (htb2.out _ hb4).mono ?_; rintro e w5 ⟨p6, n6, c6, rfl, hn6, hR6, hb6, -⟩; replace hn6 := Lib.hid hn6; have hR7 := hR5.below hb6; have hb7 := hb4.trans (hb6.mono hb4.size); clear htb2 hb6 hR5) | (go_at_call 18; refine (hsb0.out _ _ _ _ _ _ _ hn5.out hn6.out hR7 hR6).mono ?_; rintro e w6 ⟨rfl, hb8⟩; have hb9 := hb7.trans (hb8.mono hb7.size); clear hb8 hsb0))
                      all_goals
                        go_wp2
                        exact ⟨⟨z + 1, by omega, rfl, hb9⟩, by simp [intOf]; omega⟩
      · have hk0 : (0 : Int) ≤ (k : Int) := by omega
        have hk1 : (k : Int) < (nt : Int) := by omega
        have hka : k < D.length := by have := hnt.out; omega
        obtain ⟨gt, ot, rfl, hgt, hgs, hcc⟩ := ht13.out (by omega)
        have er := List.getElem?_eq_getElem hka
        generalize D[k] = r at er
        obtain ⟨va, hva, hj⟩ := hcc k r er
        have hrm := List.mem_of_getElem? er
        have hrk := hokL.out r hrm
        have hha := fun w1 (hb : Below w13.heap.size w13 w1) => gHas_c B gb S3 A R1 r va hrk w1 (hG13.out.below hb) ((hva.ext (.below hb)).ext (S' := []) (.of (Below.refl _ _) (fun _ h => by cases h)))
        rw [hAt.out, puts_is D r hrm] at hha
        obtain ⟨q1, d1, q2, d2, q3, d3, rfl, v1, v2', -⟩ := hva
        have htx := fun w1 (hb : Below w13.heap.size w13 w1) => recText_c r.k r.cl r.sq q1 r.n d1 r.gone q2 r.vs.length d2 q3 r.ss.length d3 r.ds r.vs (by have := hrk.1; omega) rfl w1 (v1.d.below hb) (v2'.b.below hb)
        change ∀ w1, Below w13.heap.size w13 w1 → Calls _ _ _ w1 (PostL (recT r) w1) at htx
        have hS : ∀ w1, Below w13.heap.size w13 w1 → w1.cell? ⟨gt, ot + k * 7, none⟩ = some (.string r.k) ∧ w1.cell? ⟨gt, ot + k * 7 + 1, none⟩ = some (.int .i64 r.cl) ∧ w1.cell? ⟨gt, ot + k * 7 + 2, none⟩ = some (.int .i64 r.sq) ∧ w1.cell? ⟨gt, ot + k * 7 + 3, none⟩ = some (.slice q1 r.n d1) ∧ w1.cell? ⟨gt, ot + k * 7 + 4, none⟩ = some (.bool r.gone) ∧ w1.cell? ⟨gt, ot + k * 7 + 5, none⟩ = some (.slice q2 r.vs.length d2) ∧ w1.cell? ⟨gt, ot + k * 7 + 6, none⟩ = some (.slice q3 r.ss.length d3) := fun w1 hb => ⟨(hb.cell (p := ⟨gt, ot + k * 7, none⟩) hgt).trans (hj 0 _ rfl), (hb.cell (p := ⟨gt, ot + k * 7 + 1, none⟩) hgt).trans (hj 1 _ rfl), (hb.cell (p := ⟨gt, ot + k * 7 + 2, none⟩) hgt).trans (hj 2 _ rfl), (hb.cell (p := ⟨gt, ot + k * 7 + 3, none⟩) hgt).trans (hj 3 _ rfl), (hb.cell (p := ⟨gt, ot + k * 7 + 4, none⟩) hgt).trans (hj 4 _ rfl), (hb.cell (p := ⟨gt, ot + k * 7 + 5, none⟩) hgt).trans (hj 5 _ rfl), (hb.cell (p := ⟨gt, ot + k * 7 + 6, none⟩) hgt).trans (hj 6 _ rfl)⟩
        unfold recV at hha
        replace hS := Lib.hid hS
        replace htx := Lib.hid htx
        clear he hcc hj hka er hrm hrk v1 v2' hgs
        by_cases hT : recT r = []
        · rw [decide_eq_false (fun h => h hT)] at hha
          rw [hT] at htx
          replace hha := Lib.hid hha
          clear hT
          go_wp2
          go_region_held3 (fun w1 => w1.cell? ⟨gt, ot + k * 7, none⟩ = some (.string r.k) ∧ w1.cell? ⟨gt, ot + k * 7 + 1, none⟩ = some (.int .i64 r.cl) ∧ w1.cell? ⟨gt, ot + k * 7 + 2, none⟩ = some (.int .i64 r.sq) ∧ w1.cell? ⟨gt, ot + k * 7 + 3, none⟩ = some (.slice q1 r.n d1) ∧ w1.cell? ⟨gt, ot + k * 7 + 4, none⟩ = some (.bool r.gone) ∧ w1.cell? ⟨gt, ot + k * 7 + 5, none⟩ = some (.slice q2 r.vs.length d2) ∧ w1.cell? ⟨gt, ot + k * 7 + 6, none⟩ = some (.slice q3 r.ss.length d3)) (first | exact hS.out _ hb6 | exact hS.out _ hb4 | exact hS.out _ hb0 | exact hS.out _ hb0.drew) (first | (go_at_call 8; refine (hha.out _ hb0.drew).mono ?_; rintro e w4 ⟨rfl, hb3⟩; have hb4 := hb0.drew.trans (hb3.mono hb0.size); clear hb3 hha) | (go_at_call 16; refine (htx.out _ hb4).mono ?_; rintro e w5 ⟨p5, n5, c5, rfl, hn5, -, hb5, -⟩; have hb6 := hb4.trans (hb5.mono hb4.size); have hn7 : n5 = 0 := hn5; clear hb5 htx hn5; subst hn7))
          all_goals
            go_wp2
            exact ⟨⟨k + 1, by omega, rfl, hb6⟩, by simp [intOf]; omega⟩
        · rw [decide_eq_true hT] at hha
          have hTl : 0 < (recT r).length := List.length_pos_iff.2 hT
          obtain ⟨X, hX⟩ : ∃ X, X = recT r := ⟨_, rfl⟩
          rw [← hX] at htx hTl
          replace hha := Lib.hid hha
          replace hTl := Lib.hid hTl
          clear hT hX
          go_wp2
          go_region_held3 (fun w1 => w1.cell? ⟨gt, ot + k * 7, none⟩ = some (.string r.k) ∧ w1.cell? ⟨gt, ot + k * 7 + 1, none⟩ = some (.int .i64 r.cl) ∧ w1.cell? ⟨gt, ot + k * 7 + 2, none⟩ = some (.int .i64 r.sq) ∧ w1.cell? ⟨gt, ot + k * 7 + 3, none⟩ = some (.slice q1 r.n d1) ∧ w1.cell? ⟨gt, ot + k * 7 + 4, none⟩ = some (.bool r.gone) ∧ w1.cell? ⟨gt, ot + k * 7 + 5, none⟩ = some (.slice q2 r.vs.length d2) ∧ w1.cell? ⟨gt, ot + k * 7 + 6, none⟩ = some (.slice q3 r.ss.length d3)) (first | exact hS.out _ hb6 | exact hS.out _ hb4 | exact hS.out _ hb0 | exact hS.out _ hb0.drew) (first | (go_at_call 8; refine (hha.out _ hb0.drew).mono ?_; rintro e w4 ⟨rfl, hb3⟩; have hb4 := hb0.drew.trans (hb3.mono hb0.size); clear hb3 hha) | (go_at_call 16; refine (htx.out _ hb4).mono ?_; rintro e w5 ⟨p5, n5, c5, rfl, hn5, -, hb5, -⟩; have hn6 : 0 < n5 := (by have := hTl.out; omega); have hb6 := hb4.trans (hb5.mono hb4.size); clear hb5 htx hn5))
          all_goals
            go_wp2
            exact ⟨⟨k + 1, by omega, rfl, hb6⟩, by simp [intOf]; omega⟩
  · clear hG
    go_wp2
    go_returns
    exact ⟨rfl, hb04⟩
end Go.Proofs.Ytdgaoljobpneaaa
