/- The walk of scalar.reduced: bytes modulo the order. -/
import Derived.Test.YtigcobcpfmnhoaaDoorSd
namespace Go.Proofs.YtigcobcpfmnhoaaDoor
open Go.RowKit Go.Shelf
attribute [local go_sem] Oper.semAt_some
/-- one of the five words -/
def wdE (d : Fe.E) (i : Nat) : Int := if i = 0 then d.a0 else if i = 1 then d.a1 else if i = 2 then d.a2 else if i = 3 then d.a3 else d.a4
theorem wd_cell {w : World} {g : Nat} {t : TypeId} {d : Fe.E} (h : Blk w g t #[.int .u64 d.a0, .int .u64 d.a1, .int .u64 d.a2, .int .u64 d.a3, .int .u64 d.a4]) (i : Nat) (hi : i < 5) : w.cell? ⟨g, i, none⟩ = some (.int .u64 (wdE d i)) := by
  rw [h.cell i]
  match i, hi with
  | 0, _ => rfl
  | 1, _ => rfl
  | 2, _ => rfl
  | 3, _ => rfl
  | 4, _ => rfl
theorem mod64_byte (X r : Nat) (hr : r < 8) : X % 18446744073709551616 / 2 ^ (8 * r) % 256 = X / 256 ^ r % 256 := by
  have h : r = 0 ∨ r = 1 ∨ r = 2 ∨ r = 3 ∨ r = 4 ∨ r = 5 ∨ r = 6 ∨ r = 7 := by omega
  rcases h with rfl | rfl | rfl | rfl | rfl | rfl | rfl | rfl <;> simp only [Nat.reduceMul, Nat.reducePow] <;> omega
/-- a byte of a number of five words -/
theorem wd_byte {d : Fe.E} (hw : Fe.W d) (k : Nat) (hk : k < 32) : wdE d (k / 8) / 2 ^ (8 * (k % 8)) % 256 = Sc.byt (Sc.V d) k := by
  obtain ⟨a0, a1, a2, a3, a4⟩ := d
  obtain ⟨⟨h0, k0⟩, ⟨h1, k1⟩, ⟨h2, k2⟩, ⟨h3, k3⟩, ⟨h4, k4⟩⟩ := hw
  dsimp only at h0 k0 h1 k1 h2 k2 h3 k3 h4 k4
  obtain ⟨a0, rfl⟩ := Int.eq_ofNat_of_zero_le h0
  obtain ⟨a1, rfl⟩ := Int.eq_ofNat_of_zero_le h1
  obtain ⟨a2, rfl⟩ := Int.eq_ofNat_of_zero_le h2
  obtain ⟨a3, rfl⟩ := Int.eq_ofNat_of_zero_le h3
  obtain ⟨a4, rfl⟩ := Int.eq_ofNat_of_zero_le h4
  obtain ⟨X, hX⟩ : ∃ X : Nat, Sc.V ⟨(a0 : Int), a1, a2, a3, a4⟩ = (X : Int) ∧ X = a0 + 18446744073709551616 * a1 + 340282366920938463463374607431768211456 * a2 + 6277101735386680763835789423207666416102355444464034512896 * a3 + 115792089237316195423570985008687907853269984665640564039457584007913129639936 * a4 := ⟨_, by unfold Sc.V; dsimp only; omega, rfl⟩
  rw [hX.1]
  have hX2 := hX.2
  clear hX
  have hq : wdE ⟨(a0 : Int), a1, a2, a3, a4⟩ (k / 8) = ((X / 256 ^ (8 * (k / 8)) % 18446744073709551616 : Nat) : Int) := by
    have h : k / 8 = 0 ∨ k / 8 = 1 ∨ k / 8 = 2 ∨ k / 8 = 3 := by omega
    rcases h with h | h | h | h <;> rw [h] <;> simp [wdE] <;> omega
  rw [hq]
  have hb := mod64_byte (X / 256 ^ (8 * (k / 8))) (k % 8) (by omega)
  rw [Nat.div_div_eq_div_mul, ← Nat.pow_add, show 8 * (k / 8) + k % 8 = k by omega] at hb
  generalize X / 256 ^ (8 * (k / 8)) % 18446744073709551616 = Y at *
  unfold Sc.byt
  have h1 : ((Y / 2 ^ (8 * (k % 8)) % 256 : Nat) : Int) = (Y : Int) / 2 ^ (8 * (k % 8)) % 256 := by rw [Int.natCast_emod, Int.natCast_ediv, Int.natCast_pow]; rfl
  have h2 : ((X / 256 ^ k % 256 : Nat) : Int) = (X : Int) / 256 ^ k % 256 := by rw [Int.natCast_emod, Int.natCast_ediv, Int.natCast_pow]; rfl
  rw [← h1, ← h2, hb]
/-- block g is a rest that stands for N -/
def RstB (w : World) (g : Nat) (N : Int) : Prop := ∃ d : Fe.E, Fe.W d ∧ Sc.V d = N ∧ Blk w g 88 #[.int .u64 d.a0, .int .u64 d.a1, .int .u64 d.a2, .int .u64 d.a3, .int .u64 d.a4]
theorem wpIn_at {F : Fence} {n : Nat} {P : Program} {c : Code} {Q : Exit → Act → World → Prop} {a : Act} {W : World} (h : ∀ W0, W0 = W → Code.wpIn F n P c Q a W0) : Code.wpIn F n P c Q a W := h W rfl
theorem RstB.lt {w : World} {g : Nat} {N : Int} (h : RstB w g N) : g < w.heap.size := h.elim fun _ h => h.2.2.lt
theorem RstB.below {w w' : World} {g : Nat} {N : Int} (h : RstB w g N) (hb : Below w.heap.size w w') : RstB w' g N := h.elim fun d h => ⟨d, h.1, h.2.1, h.2.2.below hb⟩
theorem RstB.grown {w w' : World} {g : Nat} {N : Int} {row : Option Nat} (h : RstB w g N) (hb : w.grownBy w' row) (hg : some g ≠ row) : RstB w' g N := h.elim fun d h => ⟨d, h.1, h.2.1, h.2.2.grown hb hg⟩
set_option maxRecDepth 100000 in
set_option maxHeartbeats 4000000 in
theorem reduced_c (p : Option Addr) (m c : Nat) (hm : m ≤ 1000000) (b : Nat → Fin 256) (w : World) (hB : BAt w p m (fun j => ((b j).val : Int))) :
    Calls Tryd.prog 34 #[.slice p m c] w (PostBs 32 (Sc.byt (Sc.leV (fun j => ((b j).val : Int)) m % LI)) w) := by
  obtain ⟨N, hN⟩ : ∃ N, N = Sc.leV (fun j => ((b j).val : Int)) m % LI := ⟨_, rfl⟩
  rw [← hN]
  replace hN := Lib.hid hN
  refine (callsIn_wide (n := 3)).1 ?_
  have hro : Fence.wide.round = none := rfl
  have h1 : 1 ≤ 3 := by decide
  refine callsIn_of_wp_marks Tryd.func34 rfl trivial ?_ hro
  simp only [Tryd.ntmps34, List.size_toArray, List.length_cons, List.length_nil, Nat.reduceAdd, Nat.reduceSub, Array.replicate_succ, Array.replicate_zero, List.push_toArray, List.append_toArray, List.nil_append, List.cons_append]
  gi_wp2_with fail
  refine ⟨trivial, callsIn_at (fun W0 hW => ?_)⟩
  have kS : RstB W0 w.heap.size (Sc.remS []) := by rw [hW]; exact ⟨⟨0, 0, 0, 0, 0⟩, by unfold Fe.W; decide, by decide, Blk.new _ _ _⟩
  have hb0 : Below w.heap.size w W0 := by rw [hW]; go_grown
  clear hW
  obtain ⟨GS, hGS⟩ : ∃ GS, GS = w.heap.size := ⟨_, rfl⟩
  rw [← hGS] at kS ⊢
  have loS : w.heap.size ≤ GS := by omega
  clear hGS
  have hBp : 0 < m → ∀ ad, p = some ad → ad.block < w.heap.size := fun h0 ad e => by
    obtain ⟨g, o, e2, hg, _⟩ := hB h0
    rw [e] at e2
    injection e2 with e2
    subst e2
    exact hg
  refine (callsIn_wide.2 (ybk_c _ _ _ _)).mono ?_
  rintro e w3 ⟨rfl, hW⟩
  have hb : Below W0.heap.size W0 w3 := by rw [hW]; exact (Below.refl _ _).alloc (Nat.le_refl _) _
  have hBs : w3.cell? ⟨W0.heap.size, 0, none⟩ = some (.slice p m c) := by rw [hW]; exact (Boxed.new W0 _ _).cell
  have hsz : w3.heap.size = W0.heap.size + 1 := by rw [hW, World.size_alloc]
  clear hW
  have nSs : W0.heap.size ≠ GS := by have := kS.lt; omega
  replace kS := kS.below hb
  replace hb0 := hb0.trans (hb.mono hb0.size)
  have hB3 := hB.below hb0
  clear hb hB
  obtain ⟨Bs, hBx⟩ : ∃ Bs, Bs = W0.heap.size := ⟨_, rfl⟩
  rw [← hBx] at hBs nSs ⊢
  have ltB : Bs < w3.heap.size := by omega
  clear hsz hBx
  have lts := kS.lt
  have hws := hb0.size
  replace hB3 := Lib.hid hB3
  gi_wp2
  refine wpIn_rangeFunc_ownG hro h1 (gf := 82) (lb := #[.pointer (some ⟨Bs, 0, none⟩)]) rfl trivial (enters_of Tryd.func82 (by kernel_rfl) rfl)
    (ybk_stops Fence.wide (3 - 1) trivial hro (by decide) Bs m c p b hm w3 ltB hBs hB3.out) KpY.trans (fun W l o o' hl h _ _ => KpY.putObj (fun h0 ad e => Nat.lt_of_lt_of_le (hBp h0 ad e) hws) ltB hl h) (Below.refl _ _) (fun _ => rfl)
    (fun pre W => RstB W GS (Sc.remS pre) ∧ Below w.heap.size w W ∧ w3.heap.size ≤ W.heap.size)
    (fun _ _ _ => False)
    (fun s A B row hs hg hr => ⟨hs.1.grown hg (fun e => by have := (hr _ e.symm).1; omega), hs.2.1.grown hg hs.2.1.size (fun k e => by have := (hr _ e).1; omega), Nat.le_trans hs.2.2 hg.size⟩)
    (fun _ _ _ _ _ hs _ _ => hs)
    ⟨kS, hb0, Nat.le_refl _⟩
    (fun x => { tmps := #[.slice p m c, undef, .slice none 0 0, .pointer (some ⟨GS, 0, none⟩), undef, .int .u8 (x.2.val : Int), undef, undef, .slice p m c, .func (.func 82) #[] #[.pointer (some ⟨Bs, 0, none⟩)], .int .i64 (x.1 : Int), .int .u8 (x.2.val : Int), undef, undef, undef, undef, undef, undef, undef, undef, undef, undef, undef, undef, undef, undef, undef, undef, undef, undef, undef, undef, undef, undef, undef], defers := [] }) ?assign ?body ?done ?stop
  case assign =>
    intro l x W K hK
    gi_wp2
    exact hK
  case body =>
    rintro l pre ⟨xi, xb⟩ W ⟨hS, hb, hs⟩ hlt
    obtain ⟨d, hw, hv, hR⟩ := hS
    have hbd := Sc.remS_bd pre
    gi_wp2_with fail
    refine ⟨trivial, (CallsIn.inRound l (callsIn_wide.2 (srest_c d hw (by rw [hv]; exact hbd) (xb.val : Int) (by have := xb.isLt; omega) GS W hR))).mono ?_⟩
    rintro e W2 ⟨rfl, d2, hw2, hv2, hR2, hg2⟩
    have kf := KeepsFrom.of_grownBy (B := w3.heap.size) hg2 (fun j e => by cases e; exact lts)
    have kp := KpY.grown (p := p) (m := m) hg2 (fun h0 ad e => by have := hBp h0 ad e; constructor <;> omega) (Nat.lt_of_lt_of_le ltB hs) nSs
    have hb2 := hb.grown hg2 hb.size (fun k e => by injection e with e; omega)
    have hs2 := Nat.le_trans hs hg2.size
    have hS2 : RstB W2 GS (Sc.remS (pre ++ [(xi, xb)])) := ⟨d2, hw2, by rw [Sc.remS_snoc, hv2, hv], hR2⟩
    clear hb hbd hw hv hR hw2 hv2 hR2 hg2
    gi_wp2
    exact ⟨kf, kp, hS2, hb2, hs2⟩
  case done =>
    rintro D ys W hD rfl ⟨hS, hb, hs⟩ hK
    rw [Sc.remS_all, ← hN.out] at hS
    obtain ⟨d, hw, hv, hR⟩ := hS
    have hmk : ∀ w, (Instr.makeSlice 22 (.int .i64 32) (.int .i64 32)).run Tryd.prog w = .ok (.slice (some ⟨w.heap.size, 0, none⟩) 32 32) (w.alloc (.cells (List.replicate 32 (.int .u8 0)).toArray 5)) := fun _ => by kernel_rfl
    replace hw := Lib.hid hw
    replace hv := Lib.hid hv
    replace hR := Lib.hid hR
    replace hK := Lib.hid hK
    replace hb := Lib.hid hb
    clear hB3 hBp hws
    gi_wp2
    refine wpIn_at (fun W0 hW => ?_)
    have hO : RowB W0 W.heap.size 32 32 (fun j => if j < 0 then Sc.byt N j else 0) := by
      rw [hW]
      exact ⟨_, heap_alloc_new W _, Nat.le_refl _, by unfold maxLen; decide, rfl, by kernel_rfl⟩
    have hbW : Below W.heap.size W W0 := by rw [hW]; exact (Below.refl _ _).alloc (Nat.le_refl _) _
    clear hW hmk
    have ltD : D < W.heap.size := (Array.getElem?_eq_some_iff.1 hK.out).1
    obtain ⟨G, hG⟩ : ∃ G, G = W.heap.size := ⟨_, rfl⟩
    rw [← hG] at hO ltD ⊢
    have hR1 := hR.out.below hbW
    have ltS := hR.out.lt
    have lo : w.heap.size ≤ G := by have := hb.out.size; omega
    have hK1 : W0.heap[D]? = some (.deferred (some [])) := (hbW.block D (by omega)).trans hK.out
    have hb1 := hb.out.trans (hbW.mono hb.out.size)
    have nDG : D ≠ G := by omega
    have nSG : GS ≠ G := by omega
    clear hK hR hb hbW hG
    gi_loopw [17] (fun i wr => ∃ k : Nat, k ≤ 32 ∧ i = .int .i64 k ∧ RowB wr G 32 32 (fun j => if j < k then Sc.byt N j else 0) ∧ Blk wr GS 88 #[.int .u64 d.a0, .int .u64 d.a1, .int .u64 d.a2, .int .u64 d.a3, .int .u64 d.a4] ∧ wr.heap[D]? = some (.deferred (some [])) ∧ Below w.heap.size w wr) (fun i _ => (32 - intOf i).toNat)
    case atStart => exact ⟨0, by omega, rfl, hO, hR1, hK1, hb1⟩
    case round =>
      clear hO hR1 hK1 hb1
      obtain ⟨k, hk, hi, hO, hR, hK, hb⟩ := hrel
      subst hi
      by_cases he : k = 32
      · subst he
        rw [show ((32 : Nat) : Int) = 32 from rfl]
        have hO2 : RowB wr G 32 32 (Sc.byt N) := hO.congr fun j hj => by rw [if_pos hj]
        have ltD1 : D < wr.heap.size := (Array.getElem?_eq_some_iff.1 hK).1
        have hP : PostBs 32 (Sc.byt N) w (.returned (.slice (some ⟨G, 0, none⟩) 32 32)) (wr.putObj D (.deferred none)) :=
          ⟨G, 32, rfl, lo, hO2.grown (grownBy_putObj' wr D (.deferred none)) (fun e => by injection e with e; omega), hb.grown (grownBy_putObj' wr D (.deferred none)) hb.size (fun k e => by injection e with e; omega)⟩
        replace hP := Lib.hid hP
        replace hK := Lib.hid hK
        clear hO hO2 hR hb
        gi_wp2
        refine ⟨by simp, .inl ⟨_, _, rfl, run_takeDeferred hK.out, ?_⟩⟩
        exact ⟨_, by simp [results, Tryd.results34, go_sem], hP.out⟩
      have hk0 : (0 : Int) ≤ (k : Int) := by omega
      have hk1 : (k : Int) < 32 := by omega
      have hk8 : (k : Int) / 8 < 5 := by omega
      have c1 := wd_cell hR (k / 8) (by omega)
      have hf := hO.frozen k
      have hbt := wd_byte hw.out k (by omega)
      rw [hv.out] at hbt
      replace hbt := Lib.hid hbt
      replace hR := Lib.hid hR
      replace hO := Lib.hid hO
      replace hK := Lib.hid hK
      replace hb := Lib.hid hb
      have c0 := hO.out.cell k (by omega)
      gi_wp2
      refine ⟨⟨k + 1, by omega, by simp, (hO.out.set_ k (by omega) _).congr fun j hj => ?_, hR.out.far (by exact nSG) _, (Below.heap_setCell wr ⟨G, k, none⟩ _ D nDG).trans hK.out, hb.out.setCell (p := ⟨G, k, none⟩) lo _⟩, by simp [intOf]; omega⟩
      by_cases e : j = k
      · subst e
        rw [if_pos rfl, if_pos (by omega), hbt.out]
      · rw [if_neg e]
        by_cases e2 : j < k
        · rw [if_pos e2, if_pos (by omega)]
        · rw [if_neg e2, if_neg (by omega)]
  case stop =>
    rintro D c pre W _ _ h _
    exact h.elim
end Go.Proofs.YtigcobcpfmnhoaaDoor
