/- Numbers by sixteen parts: whole loads and stores; the walks of lessP and whole. -/
import Derived.Test.YtpaldgajkhmhbaaDoorN1
import Derived.Test.YtpaldgajkhmhbaaDoorFp
import Derived.Laws.Rows
namespace Dg
/-- a difference with what is borrowed, after m parts -/
def Bo (a q t : Nat → Int) (b : Int) (m : Nat) : Prop := Di t m ∧ (b = 0 ∨ b = 1) ∧ sm t m = sm a m - sm q m + b * 65536 ^ m
theorem bo_0 (a q t : Nat → Int) : Bo a q t 0 0 := ⟨fun j h => absurd h (by omega), .inl rfl, by simp [sm]⟩
theorem bo_step {a q t : Nat → Int} {b : Int} {m : Nat} (ha : 0 ≤ a m ∧ a m < 65536) (hq : 0 ≤ q m ∧ q m < 65536) (h : Bo a q t b m) : Bo a q (up t m ((a m + 65536 - q m - b) % 65536)) (1 - (a m + 65536 - q m - b) / 65536) (m + 1) := by
  obtain ⟨hD, hb, hs⟩ := h
  refine ⟨fun j hj => ?_, by omega, ?_⟩
  · by_cases e : j = m
    · rw [e, up_same]; omega
    rw [up_ne _ _ e]; exact hD j (by omega)
  simp only [sm]
  rw [sm_up, if_neg (by omega), up_same, hs]
  have e2 : (a m + 65536 - q m - b) % 65536 = a m + 65536 - q m - b - 65536 * ((a m + 65536 - q m - b) / 65536) := by omega
  rw [e2, Int.pow_succ]
  generalize (a m + 65536 - q m - b) / 65536 = c
  generalize (65536 : Int) ^ m = X
  grind
theorem bo_end {a q t : Nat → Int} {b : Int} (h : Bo a q t b 16) (ha : sm q 16 ≤ sm a 16) : sm t 16 = sm a 16 - sm q 16 := by
  obtain ⟨hD, hb, hs⟩ := h
  have := sm_lt 16 hD
  rw [M_eq] at *
  unfold M at *
  omega
end Dg
namespace Go.Proofs.YtpaldgajkhmhbaaDoor
open Go.RowKit
theorem N_under : Tryd.prog.underlying 33 = some (.array 16 25) := by kernel_rfl
theorem N_size : (Tryd.prog.info? 33).map (·.size) = some 16 := by kernel_rfl
section
variable {ops : Array Oper} {rest : List Oper} {o : Oper} {a : Act} {w : World} {Q : Exit → Act → World → Prop}
theorem ldN (hgd : o.guard = none) {x : Operand} (ho : o.op = .load 33 x) {g : Nat} (hx : a.eval x = .pointer (some ⟨g, 0, none⟩)) {f : Nat → Int} (hg : Blk w g 33 (av f)) (h : wpList Tryd.prog ops Q rest (a.put o.dst (.agg (av f))) w) : wpList Tryd.prog ops Q (o :: rest) a w :=
  wpList_load_row hgd 33 x ho g hx 33 (av f) (0, 0) _ hg N_under rfl N_size h
theorem stN (hgd : o.guard = none) {x y : Operand} (ho : o.op = .store 33 x y) {g : Nat} (hx : a.eval x = .pointer (some ⟨g, 0, none⟩)) {f : Nat → Int} (hy : a.eval y = .agg (av f)) {old : Nat → Int} (hg : Blk w g 33 (av old))
    (h : ∀ w', Blk w' g 33 (av f) → w.grownBy w' (some g) → w'.heap.size = w.heap.size → wpList Tryd.prog ops Q rest (a.put o.dst undef) w') : wpList Tryd.prog ops Q (o :: rest) a w :=
  wpList_store_blk hgd 33 x y ho g 33 (av old) (av f) hx hy hg rfl N_size (by kernel_rfl) h
end
/-- a number's result is read -/
theorem retN {fn : Func} {p : Tmp} {f : Nat → Int} {g : Nat} {tmps : Array Value} {D : List Deferred} {w : World} {R : Ending → World → Prop} (h : fn.results = #[.cell p 33]) (hp : tmps.getD p undef = .pointer (some ⟨g, 0, none⟩)) (hg : Blk w g 33 (av f)) (hD : D = []) (hR : R (.returned (.agg (av f))) w) : bodyPost Tryd.prog fn R .ret ⟨tmps, D⟩ w :=
  bodyPost_ret (results_cell_row h tmps w g 33 (av f) (0, 0) _ hp hg N_under rfl N_size) hD hR
theorem pd_di : Dg.Di pd 16 := fun j _ => by unfold pd; split; omega; split <;> omega
theorem pd_sm : Dg.sm pd 16 = Fe.p := by
  rw [Dg.sm_congr 16 pd_eq, Dg.sm16 (by unfold Fe.P; decide)]
  rfl
theorem and16 (y : Int) (h0 : 0 ≤ y) (h1 : y < 18446744073709551616) : bits .and .u64 y 65535 = y % 65536 :=
  bits_mask .u64 64 (by decide) (fun n h h' => by rw [IntKind.wrap_u64]; omega) 16 (by decide) y h0 (by omega)
set_option maxRecDepth 20000 in
set_option maxHeartbeats 2000000 in
theorem lessP_c (a : Nat → Int) (ha : Dg.Di a 16) (hp : Fe.p ≤ Dg.sm a 16) (w : World) : Calls Tryd.prog 102 #[.agg (av a)] w fun e w' => ∃ t, PostN t w e w' ∧ Dg.Di t 16 ∧ Dg.sm t 16 = Dg.sm a 16 - Fe.p := by
  have hend := fun t b (h : Dg.Bo a pd t b 16) => Dg.bo_end h (by rw [pd_sm]; exact hp)
  rw [pd_sm] at hend
  have hpd := pd_di
  have hPc := p_c
  generalize pd = q at *
  replace hend := Lib.hid hend
  replace hpd := Lib.hid hpd
  replace ha := Lib.hid ha
  clear hp
  replace hPc := Lib.hid hPc
  go_enter Tryd.func102, Tryd.ntmps102
  go_wp2_with fail
  refine calls_at (fun W0 hW => ?_)
  have hA : Blk W0 (w.heap.size) 33 (av a) := by rw [hW]; exact (Blk.new _ _ _).alloc _
  have hZ : Blk W0 (w.heap.size + 1) 33 (av fun _ => 0) := by rw [hW]; exact blk_at (by simp) (Blk.new _ _ _)
  have hb0 : Below w.heap.size w W0 := by rw [hW]; go_grown
  clear hW
  refine (hPc.out _).mono ?_
  rintro e w1 ⟨rfl, hb1⟩
  replace hA := hA.below hb1
  replace hZ := hZ.below hb1
  replace hb0 := hb0.trans (hb1.mono hb0.size)
  have hzlt := hZ.lt
  clear hb1
  go_wp2_with (refine stN (old := fun _ => 0) rfl rfl rfl rfl (Blk.new _ _ _) ?_; intro W1 hQ hgr hsz)
  replace hA := (hA.alloc _).grown hgr (fun h => by injection h; omega)
  replace hZ := (hZ.alloc _).grown hgr (fun h => by injection h; omega)
  replace hb0 := (hb0.alloc hb0.size _).grown hgr (Nat.le_trans hb0.size (by simp)) (fun k h => by injection h; omega)
  clear hgr hsz
  generalize w1.heap.size = g at *
  go_loopw [4, 5] (fun b i wr => ∃ (m : Nat) (t : Nat → Int) (c : Int), m ≤ 16 ∧ i = .int .i64 m ∧ b = .int .u64 c ∧ Dg.Bo a q t c m ∧ (∀ j, m ≤ j → t j = a j) ∧ Blk wr w.heap.size 33 (av t) ∧ Blk wr g 33 (av q) ∧ Blk wr (w.heap.size + 1) 33 (av fun _ => 0) ∧ Below w.heap.size w wr) (fun _ i _ => (16 - intOf i).toNat)
  case atStart => exact ⟨0, a, 0, by decide, rfl, rfl, Dg.bo_0 _ _ _, fun _ _ => rfl, hA, hQ, hZ, hb0⟩
  case round =>
    clear hA hQ hZ hb0
    obtain ⟨m, t, c, hm, hi, hc, hB, hI, hA, hQ, hZ, hb0⟩ := hrel
    subst hi hc
    by_cases h16 : m = 16
    · subst h16
      have he := hend.out t c hB
      have hD := hB.1
      clear hI hB hm
      replace he := Lib.hid he
      replace hD := Lib.hid hD
      go_wp2_with (first | (refine ldN rfl rfl rfl hA ?_) | (refine stN rfl rfl rfl rfl hZ ?_; intro w3 hnew hgr hsz))
      refine retN rfl rfl hnew rfl ⟨t, ⟨rfl, hb0.grown hgr hb0.size (fun k h => by injection h; omega)⟩, hD.out, he.out⟩
    have hm16 : m < 16 := by omega
    have hm0 : (0 : Int) ≤ (m : Int) := by omega
    have hm1 : (m : Int) < 16 := by omega
    have ht := hI m (Nat.le_refl _)
    have h1 := hpd.out m hm16
    have h2 := ha.out m hm16
    have hst := Dg.bo_step h2 h1 hB
    have hc := hB.2.1
    have ca := hA.cell m
    have cq := hQ.cell m
    rw [av_get _ _ hm16] at ca cq
    rw [ht] at ca
    replace hI := Lib.hid hI
    replace hst := Lib.hid hst
    replace ht := Lib.hid ht
    clear h16 hm hB
    generalize a m = x at *
    generalize q m = y at *
    have hx0 : 0 ≤ x + 65536 - y - c := by omega
    have hx1 : x + 65536 - y - c < 18446744073709551616 := by omega
    have hx2 : (x + 65536 - y - c) / 65536 ≤ 1 := by omega
    have hx3 : 0 ≤ (x + 65536 - y - c) / 65536 := by omega
    have hand := and16 _ hx0 hx1
    have hcc : 0 ≤ c ∧ c ≤ 1 := by omega
    clear hc
    go_wp2
    go_quiet (fail)
    have hA' := (hA.drewN nq).set_ m (.int .u64 ((x + 65536 - y - c) % 65536))
    have hQ' := (hQ.drewN nq).far (p := ⟨w.heap.size, m, none⟩) (by show g ≠ w.heap.size; omega) (.int .u64 ((x + 65536 - y - c) % 65536))
    have hZ' := (hZ.drewN nq).far (p := ⟨w.heap.size, m, none⟩) (by show w.heap.size + 1 ≠ w.heap.size; omega) (.int .u64 ((x + 65536 - y - c) % 65536))
    have hb' := (bdrewN hb0 nq).setCell (p := ⟨w.heap.size, m, none⟩) (Nat.le_refl _) (.int .u64 ((x + 65536 - y - c) % 65536))
    rw [av_set _ _ _ hm16] at hA'
    have hfr := fun j => hA.frozen j
    clear hA hQ hZ hb0
    go_wp2
    refine ⟨⟨m + 1, _, _, by omega, rfl, rfl, hst.out, fun j hj => ?_, hA', hQ', hZ', hb'⟩, by simp [intOf]; omega⟩
    rw [Dg.up_ne _ _ (by omega)]
    exact hI.out j (by omega)
end Go.Proofs.YtpaldgajkhmhbaaDoor
