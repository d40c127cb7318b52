/- The walks of Add, Small and Sub of the reference. -/
import Derived.Test.YtpaldgajkhmhbaaDoorN3
namespace Dg
open Fe (P)
theorem sm_add (f g : Nat → Int) : ∀ k, sm (fun j => f j + g j) k = sm f k + sm g k
  | 0 => rfl
  | k + 1 => by
    simp only [sm]
    rw [sm_add f g k, Int.add_mul]
    omega
def addT (f g : Nat → Int) (m : Nat) : Nat → Int := fun j => if j < m then f j + g j else 0
theorem addT_up (f g : Nat → Int) (m : Nat) : up (addT f g m) m (f m + g m) = addT f g (m + 1) := by
  funext j
  unfold up addT
  by_cases e : j = m
  · subst e
    rw [if_pos rfl, if_pos (by omega)]
  rw [if_neg e]
  by_cases h : j < m
  · rw [if_pos h, if_pos (by omega)]
  rw [if_neg h, if_neg (by omega)]
theorem addT_bd {f g : Nat → Int} (hf : Di f 16) (hg : Di g 16) : Bd (addT f g 16) := fun j hj => by
  have h1 := hf j hj
  have h2 := hg j hj
  unfold addT
  rw [if_pos hj]
  omega
theorem addT_sm (f g : Nat → Int) : sm (addT f g 16) 16 = sm f 16 + sm g 16 := by
  rw [← sm_add]
  exact sm_congr 16 fun j hj => by unfold addT; rw [if_pos hj]
theorem P_lt : P < 2 ^ 256 := by unfold P; decide
theorem smP {x : Nat} (h : x < P) : sm (dg x) 16 = (x : Int) := sm16 (Nat.lt_trans h P_lt)
theorem p_P : Fe.p = (P : Int) := by unfold Fe.p P; rfl
end Dg
namespace Go.Proofs.YtpaldgajkhmhbaaDoor
open Go.RowKit
theorem nf_of {f : Nat → Int} {n : Nat} (h : Dg.sm f 16 = (n : Int)) : nf f = n % Fe.P := by
  unfold nf
  rw [h, Dg.p_P]
  omega
set_option maxRecDepth 20000 in
set_option maxHeartbeats 2000000 in
theorem rAdd_f (f g : Nat → Int) (hf : Dg.Di f 16) (hg : Dg.Di g 16) (w : World) : Calls Tryd.prog 64 #[.agg (av f), .agg (av g)] w (PostN (Dg.dg (nf (Dg.addT f g 16))) w) := by
  have hw := whole_c _ (Dg.addT_bd hf hg)
  generalize Dg.dg (nf (Dg.addT f g 16)) = z at *
  obtain ⟨r, hr⟩ : ∃ r : Nat → Nat → Int, r = Dg.addT f g := ⟨_, rfl⟩
  have hs : ∀ m, Dg.up (r m) m (f m + g m) = r (m + 1) := by rw [hr]; exact Dg.addT_up f g
  have h0 : av (r 0) = av fun _ => 0 := av_congr fun j hj => by rw [hr]; rfl
  rw [← hr] at hw
  clear hr
  replace hw := Lib.hid hw
  replace hs := Lib.hid hs
  replace h0 := Lib.hid h0
  replace hf := Lib.hid hf
  replace hg := Lib.hid hg
  go_enter Tryd.func64, Tryd.ntmps64
  go_wp2
  refine at_world (fun W0 hW => ?_)
  have hA : Blk W0 (w.heap.size) 33 (av f) := by rw [hW]; exact (((Blk.new _ _ _).alloc _).alloc _).alloc _
  have hB : Blk W0 (w.heap.size + 1) 33 (av g) := by rw [hW]; exact blk_at (by simp) (((Blk.new _ _ _).alloc _).alloc _)
  have hZ : Blk W0 (w.heap.size + 1 + 1) 33 (av fun _ => 0) := by rw [hW]; exact blk_at (by simp) ((Blk.new _ _ _).alloc _)
  have hT : Blk W0 (w.heap.size + 1 + 1 + 1) 33 (av (r 0)) := by rw [hW, h0.out]; exact blk_at (by simp) (Blk.new _ _ _)
  have hb0 : Below w.heap.size w W0 := by rw [hW]; go_grown
  clear hW
  go_loopw [6] (fun i wr => ∃ m : Nat, m ≤ 16 ∧ i = .int .i64 m ∧ Blk wr w.heap.size 33 (av f) ∧ Blk wr (w.heap.size + 1) 33 (av g) ∧ Blk wr (w.heap.size + 1 + 1) 33 (av fun _ => 0) ∧ Blk wr (w.heap.size + 1 + 1 + 1) 33 (av (r m)) ∧ Below w.heap.size w wr) (fun i _ => (16 - intOf i).toNat)
  case atStart => exact ⟨0, by decide, rfl, hA, hB, hZ, hT, hb0⟩
  case round =>
    clear hA hB hZ hT hb0
    obtain ⟨m, hm, hi, hA, hB, hZ, hT, hb0⟩ := hrel
    subst hi
    by_cases h16 : m = 16
    · subst h16
      clear hm
      go_wp2_with (refine ldN rfl rfl rfl hT ?_)
      refine (hw.out _).mono ?_
      rintro e w2 ⟨rfl, hb2⟩
      replace hZ := hZ.below hb2
      replace hb0 := hb0.trans (hb2.mono hb0.size)
      go_wp2_with (refine stN rfl rfl rfl rfl hZ ?_; intro w3 hnew hgr hsz)
      exact retN rfl rfl hnew rfl ⟨rfl, hb0.grown hgr hb0.size (fun k h => by injection h; omega)⟩
    have hm16 : m < 16 := by omega
    have hm0 : (0 : Int) ≤ (m : Int) := by omega
    have hm1 : (m : Int) < 16 := by omega
    have h1 := hf.out m hm16
    have h2 := hg.out m hm16
    have hst := hs.out m
    have ca := hA.cell m
    have cb := hB.cell m
    have ct := hT.cell m
    rw [av_get _ _ hm16] at ca cb ct
    have hfr := fun j => hT.frozen j
    replace hst := Lib.hid hst
    clear h16 hm
    generalize f m = x at *
    generalize g m = y at *
    go_wp2
    go_region
    have hT' := hT.set_ m (.int .u64 (x + y))
    rw [av_set _ _ _ hm16, hst.out] at hT'
    have hA' := hA.far (p := ⟨w.heap.size + 1 + 1 + 1, m, none⟩) (by show w.heap.size ≠ w.heap.size + 1 + 1 + 1; omega) (.int .u64 (x + y))
    have hB' := hB.far (p := ⟨w.heap.size + 1 + 1 + 1, m, none⟩) (by show w.heap.size + 1 ≠ w.heap.size + 1 + 1 + 1; omega) (.int .u64 (x + y))
    have hZ' := hZ.far (p := ⟨w.heap.size + 1 + 1 + 1, m, none⟩) (by show w.heap.size + 1 + 1 ≠ w.heap.size + 1 + 1 + 1; omega) (.int .u64 (x + y))
    have hb' := hb0.setCell (p := ⟨w.heap.size + 1 + 1 + 1, m, none⟩) (by show w.heap.size ≤ w.heap.size + 1 + 1 + 1; omega) (.int .u64 (x + y))
    clear hA hB hZ hT hb0 ca cb ct hfr
    go_wp2
    exact ⟨⟨m + 1, by omega, rfl, hA'.drew, hB'.drew, hZ'.drew, hT'.drew, hb'.drew⟩, by simp [intOf]; omega⟩
theorem rAdd_c (x y : Nat) (hx : x < Fe.P) (hy : y < Fe.P) (w : World) : Calls Tryd.prog 64 #[.agg (av (Dg.dg x)), .agg (av (Dg.dg y))] w (PostN (Dg.dg ((x + y) % Fe.P)) w) := by
  have h := rAdd_f _ _ (Dg.dg_di x 16) (Dg.dg_di y 16) w
  rw [nf_of (n := x + y) (by rw [Dg.addT_sm, Dg.smP hx, Dg.smP hy]; rfl)] at h
  exact h
theorem rSmall_c (n : Nat) (hn : n < 1000000) (w : World) : Calls Tryd.prog 89 #[.int .u64 n] w (PostN (Dg.dg n) w) := by
  obtain ⟨f, hf⟩ : ∃ f, f = Dg.up (fun _ => 0) 0 (n : Int) := ⟨_, rfl⟩
  have hw := whole_c f (fun j hj => by
    subst hf
    unfold Dg.up
    split
    · omega
    exact ⟨Int.le_refl 0, by show (0 : Int) < _; decide⟩)
  have hz : ∀ k, Dg.sm (fun _ => 0) k = 0 := fun k => by
    induction k with
    | zero => rfl
    | succ k ih => simp only [Dg.sm]; rw [ih]; simp
  have hsm : Dg.sm f 16 = (n : Int) := by
    rw [hf, Dg.sm_up, if_pos (by decide), hz]
    simp
  rw [nf_of hsm, Nat.mod_eq_of_lt (by unfold Fe.P; omega)] at hw
  have hw' : ∀ w, Calls Tryd.prog 86 #[.agg #[.int .u64 n, .int .u64 0, .int .u64 0, .int .u64 0, .int .u64 0, .int .u64 0, .int .u64 0, .int .u64 0, .int .u64 0, .int .u64 0, .int .u64 0, .int .u64 0, .int .u64 0, .int .u64 0, .int .u64 0, .int .u64 0]] w (PostN (Dg.dg n) w) := by
    have h := hw
    subst hf
    exact h
  clear hsm hz hw hf
  replace hw' := Lib.hid hw'
  generalize Dg.dg n = z at *
  go_enter Tryd.func89, Tryd.ntmps89
  go_wp2_with fail
  refine calls_at (fun W0 hW => ?_)
  have hZ : Blk W0 (w.heap.size) 33 (av fun _ => 0) := by rw [hW]; exact (Blk.new _ _ _).alloc _
  have hb0 : Below w.heap.size w W0 := by rw [hW]; go_grown
  clear hW
  refine (hw'.out _).mono ?_
  rintro e w2 ⟨rfl, hb2⟩
  replace hZ := hZ.below hb2
  replace hb0 := hb0.trans (hb2.mono hb0.size)
  go_wp2_with (refine stN rfl rfl rfl rfl hZ ?_; intro w3 hnew hgr hsz)
  exact retN rfl rfl hnew rfl ⟨rfl, hb0.grown hgr hb0.size (fun k h => by injection h; omega)⟩
set_option maxRecDepth 20000 in
set_option maxHeartbeats 2000000 in
theorem rSub_ge (f g : Nat → Int) (n : Nat) (hf : Dg.Di f 16) (hg : Dg.Di g 16) (hge : Dg.sm g 16 ≤ Dg.sm f 16) (hn : (Dg.sm f 16 - Dg.sm g 16) % Fe.p = n) (w : World) : Calls Tryd.prog 62 #[.agg (av f), .agg (av g)] w (PostN (Dg.dg n) w) := by
  have hend : ∀ t b, Dg.Bo f g t b 16 → ∀ w, Calls Tryd.prog 86 #[.agg (av t)] w (PostN (Dg.dg n) w) := fun t b h w => by
    have h1 := whole_c t (fun j hj => by have := h.1 j hj; omega) w
    rw [dg_nf (n := n) (by rw [Dg.bo_end h hge]; exact hn)] at h1
    exact h1
  have hLs := less_c f g hf hg
  rw [show lessB f g = false from decide_eq_false (by omega)] at hLs
  generalize Dg.dg n = z at *
  replace hend := Lib.hid hend
  replace hLs := Lib.hid hLs
  replace hf := Lib.hid hf
  replace hg := Lib.hid hg
  clear hge hn
  go_enter Tryd.func62, Tryd.ntmps62
  go_wp2_with (first | (refine ldN rfl rfl rfl (f := f) (((Blk.new _ _ _).alloc _).alloc _) ?_) | (refine ldN rfl rfl rfl (f := g) (blk_at (by simp) ((Blk.new _ _ _).alloc _)) ?_))
  refine calls_at (fun W0 hW => ?_)
  have hA : Blk W0 (w.heap.size) 33 (av f) := by rw [hW]; exact ((Blk.new _ _ _).alloc _).alloc _
  have hB : Blk W0 (w.heap.size + 1) 33 (av g) := by rw [hW]; exact blk_at (by simp) ((Blk.new _ _ _).alloc _)
  have hZ : Blk W0 (w.heap.size + 1 + 1) 33 (av fun _ => 0) := by rw [hW]; exact blk_at (by simp) (Blk.new _ _ _)
  have hb0 : Below w.heap.size w W0 := by rw [hW]; go_grown
  clear hW
  refine (hLs.out _).mono ?_
  rintro e w1 ⟨rfl, hb1⟩
  replace hA := hA.below hb1
  replace hB := hB.below hb1
  replace hZ := hZ.below hb1
  replace hb0 := hb0.trans (hb1.mono hb0.size)
  have hzlt := hZ.lt
  clear hb1
  go_wp2
  refine at_world (fun W1 hW => ?_)
  replace hA : Blk W1 (w.heap.size) 33 (av f) := by rw [hW]; exact hA.alloc _
  replace hB : Blk W1 (w.heap.size + 1) 33 (av g) := by rw [hW]; exact hB.alloc _
  replace hZ : Blk W1 (w.heap.size + 1 + 1) 33 (av fun _ => 0) := by rw [hW]; exact hZ.alloc _
  have hT : Blk W1 w1.heap.size 33 (av fun _ => 0) := by rw [hW]; exact Blk.new _ _ _
  replace hb0 : Below w.heap.size w W1 := by rw [hW]; exact hb0.alloc hb0.size _
  clear hW
  generalize w1.heap.size = G at *
  go_loopw [5, 7] (fun b i wr => ∃ (m : Nat) (t : Nat → Int) (c : Int), m ≤ 16 ∧ i = .int .i64 m ∧ b = .int .u64 c ∧ Dg.Bo f g t c m ∧ Blk wr w.heap.size 33 (av f) ∧ Blk wr (w.heap.size + 1) 33 (av g) ∧ Blk wr (w.heap.size + 1 + 1) 33 (av fun _ => 0) ∧ Blk wr G 33 (av t) ∧ Below w.heap.size w wr) (fun _ i _ => (16 - intOf i).toNat)
  case atStart => exact ⟨0, _, 0, by decide, rfl, rfl, Dg.bo_0 _ _ _, hA, hB, hZ, hT, hb0⟩
  case round =>
    clear hA hB hZ hT hb0
    obtain ⟨m, t, c, hm, hi, hc, hBo, hA, hB, hZ, hT, hb0⟩ := hrel
    subst hi hc
    by_cases h16 : m = 16
    · subst h16
      have hw := Lib.hid (hend.out t c hBo)
      clear hBo hm
      go_wp2_with (refine ldN rfl rfl rfl hT ?_)
      refine (hw.out _).mono ?_
      rintro e w2 ⟨rfl, hb2⟩
      replace hZ := hZ.below hb2
      replace hb0 := hb0.trans (hb2.mono hb0.size)
      go_wp2_with (refine stN rfl rfl rfl rfl hZ ?_; intro w3 hnew hgr hsz)
      exact retN rfl rfl hnew rfl ⟨rfl, hb0.grown hgr hb0.size (fun k h => by injection h; omega)⟩
    have hm16 : m < 16 := by omega
    have hm0 : (0 : Int) ≤ (m : Int) := by omega
    have hm1 : (m : Int) < 16 := by omega
    have h1 := hf.out m hm16
    have h2 := hg.out m hm16
    have hst := Dg.bo_step h1 h2 hBo
    have hc := hBo.2.1
    have ca := hA.cell m
    have cb := hB.cell m
    rw [av_get _ _ hm16] at ca cb
    replace hst := Lib.hid hst
    clear h16 hm hBo
    generalize f m = x at *
    generalize g m = y at *
    have hx0 : 0 ≤ x + 65536 - y - c := by omega
    have hx1 : x + 65536 - y - c < 18446744073709551616 := by omega
    have hx2 : (x + 65536 - y - c) / 65536 ≤ 1 := by omega
    have hx3 : 0 ≤ (x + 65536 - y - c) / 65536 := by omega
    have hand := and16 _ hx0 hx1
    have hcc : 0 ≤ c ∧ c ≤ 1 := by omega
    clear hc
    go_wp2
    go_quiet (fail)
    have hT' := (hT.drewN nq).set_ m (.int .u64 ((x + 65536 - y - c) % 65536))
    have hA' := (hA.drewN nq).far (p := ⟨G, m, none⟩) (by show w.heap.size ≠ G; omega) (.int .u64 ((x + 65536 - y - c) % 65536))
    have hB' := (hB.drewN nq).far (p := ⟨G, m, none⟩) (by show w.heap.size + 1 ≠ G; omega) (.int .u64 ((x + 65536 - y - c) % 65536))
    have hZ' := (hZ.drewN nq).far (p := ⟨G, m, none⟩) (by show w.heap.size + 1 + 1 ≠ G; omega) (.int .u64 ((x + 65536 - y - c) % 65536))
    have hb' := (bdrewN hb0 nq).setCell (p := ⟨G, m, none⟩) (by show w.heap.size ≤ G; omega) (.int .u64 ((x + 65536 - y - c) % 65536))
    rw [av_set _ _ _ hm16] at hT'
    have hfr := fun j => hT.frozen j
    have hcT := hT.cell m
    rw [av_get _ _ hm16] at hcT
    clear hA hB hZ hT hb0
    go_wp2
    exact ⟨⟨m + 1, _, _, by omega, rfl, rfl, hst.out, hA', hB', hZ', hT', hb'⟩, by simp [intOf]; omega⟩
def rsuL (a b pq z1 z2 : Nat → Int) : List (Value → World → Prop) := [
  Eq1 (.agg (av pq)),
  Eq1 (.agg (av b)),
  Eq1 (.agg (av a)),
  Eq1 (.agg (av z1)),
  Eq1 (.agg (av z2))]
theorem rsuS (a b pq z1 z2 : Nat → Int) : ∀ j x' q q', (rsuL a b pq z1 z2).getD j (fun _ _ => True) x' q → Below q.heap.size q q' → (rsuL a b pq z1 z2).getD j (fun _ _ => True) x' q' := by
  refine sta_all _ ?_
  simp only [rsuL, List.mem_cons, forall_eq_or_imp, List.not_mem_nil, false_implies, implies_true, and_true]
  exact ⟨sta_eq _, sta_eq _, sta_eq _, sta_eq _, sta_eq _⟩
set_option maxRecDepth 20000 in
set_option maxHeartbeats 2000000 in
theorem rSub_lt (a b : Nat → Int) (n : Nat) (hf : Dg.Di a 16) (hg : Dg.Di b 16) (hlt : Dg.sm a 16 < Dg.sm b 16) (hle : Dg.sm b 16 < Fe.p) (hn : (Dg.sm a 16 - Dg.sm b 16) % Fe.p = n) (w : World) : Calls Tryd.prog 62 #[.agg (av a), .agg (av b)] w (PostN (Dg.dg n) w) := by
  have ha0 := (Dg.sm_lt 16 hf).1
  obtain ⟨d, hd⟩ : ∃ d : Nat, Dg.sm b 16 - Dg.sm a 16 = d := ⟨(Dg.sm b 16 - Dg.sm a 16).toNat, by omega⟩
  have hdp : d < Fe.P := by have := Dg.p_P; omega
  have h1 := rSub_ge b a d hg hf (by omega) (by rw [hd, Int.emod_eq_of_lt (by omega) (by have := Dg.p_P; omega)])
  have h2 := rSub_ge pd (Dg.dg d) n pd_di (Dg.dg_di d 16) (by rw [pd_sm, Dg.smP hdp, Dg.p_P]; omega) (by rw [pd_sm, Dg.smP hdp, ← hd, ← hn, show Fe.p - (Dg.sm b 16 - Dg.sm a 16) = (Dg.sm a 16 - Dg.sm b 16) + Fe.p by omega, Int.add_emod_right])
  have hLs := less_c a b hf hg
  rw [show lessB a b = true from decide_eq_true hlt] at hLs
  have hPc := p_c
  generalize pd = pq at *
  generalize Dg.dg d = z1 at *
  generalize Dg.dg n = z2 at *
  replace h1 := Lib.hid h1
  replace h2 := Lib.hid h2
  replace hLs := Lib.hid hLs
  replace hPc := Lib.hid hPc
  clear hf hg hlt hn ha0 hd hdp hle
  go_enter Tryd.func62, Tryd.ntmps62
  go_wp2_with (first | (refine ldN rfl rfl rfl (f := a) (((Blk.new _ _ _).alloc _).alloc _) ?_) | (refine ldN rfl rfl rfl (f := b) (blk_at (by simp) ((Blk.new _ _ _).alloc _)) ?_))
  refine calls_at (fun W0 hW => ?_)
  have hA : Blk W0 (w.heap.size) 33 (av a) := by rw [hW]; exact ((Blk.new _ _ _).alloc _).alloc _
  have hB : Blk W0 (w.heap.size + 1) 33 (av b) := by rw [hW]; exact blk_at (by simp) ((Blk.new _ _ _).alloc _)
  have hZ : Blk W0 (w.heap.size + 1 + 1) 33 (av fun _ => 0) := by rw [hW]; exact blk_at (by simp) (Blk.new _ _ _)
  have hb0 : Below w.heap.size w W0 := by rw [hW]; go_grown
  clear hW
  refine (hLs.out _).mono ?_
  rintro e w1 ⟨rfl, hb1⟩
  replace hA := hA.below hb1
  replace hB := hB.below hb1
  replace hZ := hZ.below hb1
  replace hb0 := hb0.trans (hb1.mono hb0.size)
  clear hb1
  go_wp2
  refine wp_region_grow2 5 (fun k => (Nat.ble 12 k && Nat.ble k 16)) _ [] (fun j x' q => (rsuL a b pq z1 z2).getD j (fun _ _ => True) x' q) (fun _ => false) (fun f => #[.agg (av a), .agg (av b), .pointer (some ⟨w.heap.size, 0, none⟩), .pointer (some ⟨w.heap.size + 1, 0, none⟩), .pointer (some ⟨w.heap.size + 1 + 1, 0, none⟩), undef, undef, undef, undef, .agg (av a), .agg (av b), .bool true, f 12, f 13, f 14, f 15, f 16, undef, undef, undef, undef, undef, undef, undef, undef, undef, undef, undef, undef, undef, undef, undef, undef, undef, undef, undef, undef, undef, undef, undef]) (fun f => rfl) (by kernel_rfl) (by kernel_rfl) (by kernel_rfl) (by kernel_rfl) (by kernel_rfl) (rsuS _ _ _ _ _) (fun _ _ _ h => by cases h) ?_ ?_
  · refine steps2_cons ?_ ?_
    · intro f w1 hb hd Q hK
      clear hd
      have hK := Lib.hid hK
      go_wp2_with fail
      refine (hPc.out _).mono ?_
      rintro e w2 ⟨rfl, hb2⟩
      go_wp2
      exact hK.out _ _ rfl hb2 nof
    refine steps2_cons ?_ ?_
    · intro f w1 hb hd Q hK
      clear hd
      have hK := Lib.hid hK
      refine ldN rfl rfl rfl (hB.below hb) ?_
      go_wp2
      exact hK.out _ _ rfl (.refl _ _) nof
    refine steps2_cons ?_ ?_
    · intro f w1 hb hd Q hK
      clear hd
      have hK := Lib.hid hK
      refine ldN rfl rfl rfl (hA.below hb) ?_
      go_wp2
      exact hK.out _ _ rfl (.refl _ _) nof
    refine steps2_cons ?_ ?_
    · intro f w1 hb hd Q hK
      have e13 : f 13 = .agg (av b) := hd.1 rfl
      have e14 : f 14 = .agg (av a) := hd.2.1 rfl
      clear hd
      simp only [e13, e14] at hK
      have hK := Lib.hid hK
      go_wp2_with fail
      refine (h1.out _).mono ?_
      rintro e w2 ⟨rfl, hb2⟩
      go_wp2
      exact hK.out _ _ rfl hb2 nof
    refine steps2_cons ?_ ?_
    · intro f w1 hb hd Q hK
      have e12 : f 12 = .agg (av pq) := hd.1 rfl
      have e15 : f 15 = .agg (av z1) := hd.2.1 rfl
      clear hd
      simp only [e12, e15] at hK
      have hK := Lib.hid hK
      go_wp2_with fail
      refine (h2.out _).mono ?_
      rintro e w2 ⟨rfl, hb2⟩
      go_wp2
      exact hK.out _ _ rfl hb2 nof
    trivial
  intro f w3 hb hf hne
  have d16 : f 16 = .agg (av z2) := hf 4 _ _ (by decide) rfl rfl
  clear hf hne
  replace hZ := hZ.below hb
  replace hb0 := hb0.trans (hb.mono hb0.size)
  simp only [d16]
  refine stN rfl rfl rfl rfl hZ ?_
  intro w4 hnew hgr hsz
  go_wp2
  exact retN rfl rfl hnew rfl ⟨rfl, hb0.grown hgr hb0.size (fun k h => by injection h; omega)⟩
theorem rSub_c (x y : Nat) (hx : x < Fe.P) (hy : y < Fe.P) (w : World) : Calls Tryd.prog 62 #[.agg (av (Dg.dg x)), .agg (av (Dg.dg y))] w (PostN (Dg.dg ((x + (Fe.P - y)) % Fe.P)) w) := by
  have hn : (Dg.sm (Dg.dg x) 16 - Dg.sm (Dg.dg y) 16) % Fe.p = ((x + (Fe.P - y)) % Fe.P : Nat) := by
    rw [Dg.smP hx, Dg.smP hy, Dg.p_P, Int.natCast_emod, show ((x + (Fe.P - y) : Nat) : Int) = (x : Int) - y + Fe.P by omega, Int.add_emod_right]
  by_cases h : y ≤ x
  · exact rSub_ge _ _ _ (Dg.dg_di x 16) (Dg.dg_di y 16) (by rw [Dg.smP hx, Dg.smP hy]; omega) hn w
  exact rSub_lt _ _ _ (Dg.dg_di x 16) (Dg.dg_di y 16) (by rw [Dg.smP hx, Dg.smP hy]; omega) (by rw [Dg.smP hy, Dg.p_P]; omega) hn w
end Go.Proofs.YtpaldgajkhmhbaaDoor
