/- Plain: the base point's bytes. The walks of slices.Repeat of one byte and edwards.Base. Points in drawn regions: loads, slices of points, calls. Zeros appended onto a row of bytes; bytes32, fold, point. Plain: the bytes that awake asks of. The walk of awake. -/
import Derived.Test.YtigcobcpfmnhoaaDoorEh
import Derived.Test.YtigcobcpfmnhoaaDoorZb
import Derived.Laws.CopyRow
import Derived.Great.BuildSlice
import Derived.Lib.AppendZerosOnto
namespace Fe
/-- the base point's bytes -/
def bb (j : Nat) : Int := if j = 0 then 88 else 102
theorem bb_r (j : Nat) : 0 ≤ bb j ∧ bb j < 256 := by unfold bb; split <;> omega
def bY : Nat := 46316835694926478169428394003475163141307993866256225615783033603165251855960
def bX : Nat := 15112221349535400772501151409588531511454012693041857206046113283949847762202
theorem odB_bb : odB bb = false := by decide
theorem nB_bb : nB bb = bY := by
  unfold nB
  have h := val_get (clr_r bb_r)
  have h2 : sy (clr bb) 31 + clr bb 31 % 128 * 256 ^ 31 = (bY : Int) := by decide +kernel
  rw [h2] at h
  have h3 := nv_int (getE (clr bb) 255)
  rw [h] at h3
  have h4 : ((bY : Int) % p) = (bY : Int) := by decide +kernel
  rw [h4] at h3
  exact Int.ofNat.inj h3
theorem getOk_bb : Go.Proofs.YtigcobcpfmnhoaaDoor.getOk (clr bb) = true := by
  rw [ok_same (clr_r bb_r)]
  decide +kernel
theorem bN_bb : bN (uN bY) (vN bY) = true ∧ rN (uN bY) (vN bY) = bX := by
  unfold bN rN
  rw [r0F_eq, K2F_eq]
  decide +kernel
theorem gB_bb : gB bY false = true := by
  unfold gB
  rw [bN_bb.1]
  rfl
theorem okB_bb : okB bb = true := by
  unfold okB
  rw [getOk_bb, nB_bb, odB_bb, gB_bb]
  rfl
theorem gX_bb : gX bY false = bX := by rw [Go.Proofs.YtigcobcpfmnhoaaDoor.gX_f, bN_bb.2]
theorem cv_base : Cv (zf bX) (zf bY) := by
  have h := (pa_got (by unfold bY P; decide) gB_bb).cv
  rw [gX_bb] at h
  exact h
end Fe

namespace Go.Proofs.YtigcobcpfmnhoaaDoor
open Go.RowKit
theorem grown_setRow (w : World) (g : Nat) (cs : Array Value) : w.grownBy (w.setRow g cs) (some g) := by
  refine ⟨rfl, rfl, rfl, by simp, fun i hi hne => ?_⟩
  have h : g ≠ i := fun e => hne (by rw [e])
  simp only [World.setRow, Array.getElem?_modify, h, if_false]
section
variable {ops : Array Oper} {rest : List Oper} {o : Oper} {a : Act} {w : World} {Q : Exit → Act → World → Prop}
theorem wpList_cp (hgd : o.guard = none) {s x : Operand} (ho : o.op = .call { callee := .builtin .copy, args := #[s, x], argTypes := #[22, 22] }) {g od dl dc : Nat} (hs : a.eval s = .slice (some ⟨g, od, none⟩) dl dc)
    {ad : Addr} {m c2 : Nat} (hx : a.eval x = .slice (some ad) m c2) {cur : Array Value} (hg : Blk w g 5 cur) (cs : List Value) (hn : cs.length = Nat.min m dl) (hsrc : ∀ j v, cs[j]? = some v → w.cell? (ad.add j) = some v) (hfit : od + cs.length ≤ cur.size) (h1 : ∀ v ∈ cs, v.oneCell' = true)
    (h : ∀ w', Blk w' g 5 (cur.toList.take od ++ cs ++ cur.toList.drop (od + cs.length)).toArray → w.grownBy w' (some g) → wpList Tryd.prog ops Q rest (a.put o.dst (.int .i64 cs.length)) w') : wpList Tryd.prog ops Q (o :: rest) a w :=
  wpList_plain hgd fun _ hK => by
    obtain ⟨i, hi, hz, hsz, hby⟩ := info_parts u8_infoK
    have hr := run_copy_row (P := Tryd.prog) w 22 22 o.type 5 g od dl dc ad m c2 cur 5 cs bs_underK (by rw [hi]; simpa using hsz) hg hn hsrc hfit h1
    unfold Oper.wp execOp
    simp only [ho, resolve, invoke, builtin, Sem.run_bind, Sem.run_pure, Result.andThen_ok, List.map_toArray, List.map_cons, List.map_nil, hs, hx, hr]
    exact hK _ _ (h _ (setRow_heap w g cur _ _ _ hg) (grown_setRow _ _ _))
/-- block g: k times 102, and nothing behind -/
def rl (k : Nat) : List Value := List.replicate k (.int .u8 102) ++ List.replicate (32 - k) (.int .u8 0)
theorem rl_len {k : Nat} (h : k ≤ 32) : (rl k).length = 32 := by unfold rl; simp; omega
theorem rl_get {k j : Nat} (h : j < k) : (rl k)[j]? = some (.int .u8 102) := by
  unfold rl
  rw [List.getElem?_append_left (by simpa using h), List.getElem?_replicate, if_pos h]
def RowR (w : World) (g k : Nat) : Prop := Blk w g 5 (rl k).toArray
theorem rl_step {k m : Nat} (h : k + m ≤ 32) : (rl k).take k ++ List.replicate m (.int .u8 102) ++ (rl k).drop (k + m) = rl (k + m) := by
  unfold rl
  have e1 : (List.replicate k (Value.int .u8 102) ++ List.replicate (32 - k) (Value.int .u8 0)).take k = List.replicate k (Value.int .u8 102) := by
    rw [List.take_append_of_le_length (by simp), List.take_of_length_le (by simp)]
  have e2 : (List.replicate k (Value.int .u8 102) ++ List.replicate (32 - k) (Value.int .u8 0)).drop (k + m) = List.replicate (32 - (k + m)) (Value.int .u8 0) := by
    rw [List.drop_append, List.drop_eq_nil_of_le (by simp), List.nil_append, List.drop_replicate, List.length_replicate]
    congr 1
    omega
  rw [e1, e2, List.append_assoc, ← List.append_assoc, List.replicate_append_replicate]
theorem wpList_cpR (k m : Nat) (hk : k + m ≤ 32) (hgd : o.guard = none) {s x : Operand} (ho : o.op = .call { callee := .builtin .copy, args := #[s, x], argTypes := #[22, 22] }) {g dl dc g2 c2 : Nat} (hs : a.eval s = .slice (some ⟨g, k, none⟩) dl dc)
    (hx : a.eval x = .slice (some ⟨g2, 0, none⟩) m c2) (hg : RowR w g k) (hm : m ≤ dl) (hsrc : ∀ j, j < m → w.cell? ⟨g2, j, none⟩ = some (.int .u8 102))
    (h : ∀ w', RowR w' g (k + m) → w.grownBy w' (some g) → wpList Tryd.prog ops Q rest (a.put o.dst (.int .i64 m)) w') : wpList Tryd.prog ops Q (o :: rest) a w := by
  refine wpList_cp hgd ho hs hx hg (List.replicate m (.int .u8 102)) (by rw [List.length_replicate]; exact (Nat.min_eq_left hm).symm) (fun j v hv => ?_) ?_ (fun v hv => by rw [(List.mem_replicate.1 hv).2]; rfl) (fun w' hw hgr => ?_)
  · rw [List.getElem?_replicate] at hv
    split at hv
    · rename_i hj
      cases hv
      have := hsrc j hj
      rw [add_o, Nat.zero_add]
      exact this
    cases hv
  · rw [List.length_replicate, List.size_toArray, rl_len (by omega)]; omega
  rw [List.length_replicate]
  refine h w' ?_ hgr
  have hl : (rl k).toArray.toList = rl k := rfl
  rw [List.length_replicate, hl, rl_step hk] at hw
  exact hw
theorem run_cpR (w : World) (ty : TypeId) (k m : Nat) (hk : k + m ≤ 32) {g dl dc g2 c2 : Nat} (hg : RowR w g k) (hm : m ≤ dl) (hsrc : ∀ j, j < m → w.cell? ⟨g2, j, none⟩ = some (.int .u8 102)) :
    (Builtin.copy_ #[22, 22] ty #[.slice (some ⟨g, k, none⟩) dl dc, .slice (some ⟨g2, 0, none⟩) m c2]).run Tryd.prog w = .ok (.int .i64 m) (w.setRow g (rl (k + m)).toArray) := by
  obtain ⟨i, hi, hz, hsz, hby⟩ := info_parts u8_infoK
  have hl : (rl k).toArray.toList = rl k := rfl
  have hr := run_copy_row (P := Tryd.prog) w 22 22 ty 5 g k dl dc ⟨g2, 0, none⟩ m c2 (rl k).toArray 5 (List.replicate m (.int .u8 102)) bs_underK (by rw [hi]; simpa using hsz) hg (by rw [List.length_replicate]; exact (Nat.min_eq_left hm).symm) (fun j v hv => by
    rw [List.getElem?_replicate] at hv
    split at hv
    · rename_i hj
      cases hv
      have := hsrc j hj
      rw [add_o, Nat.zero_add]
      exact this
    cases hv) (by rw [List.length_replicate, List.size_toArray, rl_len (by omega)]; omega) (fun v hv => by rw [(List.mem_replicate.1 hv).2]; rfl)
  rw [List.length_replicate, hl, rl_step hk] at hr
  exact hr
theorem RowR.setRow {w : World} {g k m : Nat} (h : RowR w g k) : RowR (w.setRow g (rl m).toArray) g m := setRow_heap w g _ _ _ _ h
theorem RowR.cell {w : World} {g k : Nat} (h : RowR w g k) (j : Nat) (hj : j < k) : w.cell? ⟨g, j, none⟩ = some (.int .u8 102) := by
  rw [Blk.cell h j]
  simpa using rl_get hj
end
theorem bmul_c (w : World) : Calls Tryd.prog 61 #[.int .u64 1, .int .u64 32] w fun e w' => e = .returned (.tuple #[.int .u64 0, .int .u64 32]) ∧ w = w' := by
  have h := mul64_c 1 32 (by decide) (by decide) w
  replace h := Lib.hid h
  go_enter Tryd.func61, Tryd.ntmps61
  go_wp2_with fail
  refine h.out.mono ?_
  rintro e w1 ⟨rfl, rfl⟩
  go_wp2
  go_returns
  exact ⟨rfl, rfl⟩
set_option maxRecDepth 20000 in
set_option maxHeartbeats 8000000 in
theorem repeat_c (g c : Nat) (w : World) (hg : g < w.heap.size) (hc : w.cell? ⟨g, 0, none⟩ = some (.int .u8 102)) :
    Calls Tryd.prog 32 #[.slice (some ⟨g, 0, none⟩) 1 c, .int .i64 32] w fun e w' => ∃ g', w.heap.size ≤ g' ∧ e = .returned (.slice (some ⟨g', 0, none⟩) 32 32) ∧ RowR w' g' 32 ∧ Below w.heap.size w w' := by
  have hmk : ∀ w, (Instr.makeSlice 22 (.int .i64 32) (.int .i64 32)).run Tryd.prog w = .ok (.slice (some ⟨w.heap.size, 0, none⟩) 32 32) (w.alloc (.cells (List.replicate 32 (.int .u8 0)).toArray 5)) := fun _ => by kernel_rfl
  go_enter Tryd.func32, Tryd.ntmps32
  go_wp2_with fail
  refine (bmul_c _).mono ?_
  rintro e w1 ⟨rfl, rfl⟩
  go_wp2_with (first | (refine wpList_cpR 0 1 (by decide) rfl rfl rfl rfl (Blk.new _ _ _) (by decide) (fun j hj => by obtain rfl : j = 0 := (by omega); exact ((Below.refl _ _).alloc (Nat.le_refl _) _ : Below w.heap.size w _).cell (p := ⟨g, 0, none⟩) hg |>.trans hc) ?_; intro w2 hR hgr))
  have hb2 : Below w.heap.size w w2 := ((Below.refl _ _).alloc (Nat.le_refl _) _).grown hgr (by rw [World.size_alloc]; omega) (fun k hk => by injection hk with hk; omega)
  clear hgr hmk hc hg
  obtain ⟨G, hG⟩ : ∃ G, G = w.heap.size := ⟨_, rfl⟩
  rw [← hG] at hR ⊢
  have lo : w.heap.size ≤ G := by omega
  clear hG
  refine wp_loop_rounds 6 ?_
  rw [rounds_succ]
  have hcp := run_cpR w2.drew 3 1 1 (by decide) (g := G) (g2 := G) (dl := 31) (dc := 31) (c2 := 32) hR (by decide) (fun j hj => RowR.cell (hR : RowR w2.drew G 1) j hj)
  go_wp2
  go_region
  obtain ⟨w3, hw⟩ : ∃ w', w' = w2.drew.setRow G (rl 2).toArray := ⟨_, rfl⟩
  rw [← hw]
  have hR3 : RowR w3 G 2 := by rw [hw]; exact RowR.setRow (hR : RowR w2.drew G _)
  have hb3 : Below w.heap.size w w3 := by rw [hw]; exact Below.grown (hb2.drew) (grown_setRow _ _ _) hb2.size (fun k hk => by injection hk with hk; omega)
  clear hw hcp hb2 hR
  have hR := hR3
  clear hR3
  go_wp2
  rw [rounds_succ]
  have hcp := run_cpR w3.drew 3 2 2 (by decide) (g := G) (g2 := G) (dl := 30) (dc := 30) (c2 := 32) hR (by decide) (fun j hj => RowR.cell (hR : RowR w3.drew G 2) j hj)
  go_wp2
  go_region
  obtain ⟨w4, hw⟩ : ∃ w', w' = w3.drew.setRow G (rl 4).toArray := ⟨_, rfl⟩
  rw [← hw]
  have hR4 : RowR w4 G 4 := by rw [hw]; exact RowR.setRow (hR : RowR w3.drew G _)
  have hb4 : Below w.heap.size w w4 := by rw [hw]; exact Below.grown (hb3.drew) (grown_setRow _ _ _) hb3.size (fun k hk => by injection hk with hk; omega)
  clear hw hcp hb3 hR
  have hR := hR4
  clear hR4
  go_wp2
  rw [rounds_succ]
  have hcp := run_cpR w4.drew 3 4 4 (by decide) (g := G) (g2 := G) (dl := 28) (dc := 28) (c2 := 32) hR (by decide) (fun j hj => RowR.cell (hR : RowR w4.drew G 4) j hj)
  go_wp2
  go_region
  obtain ⟨w5, hw⟩ : ∃ w', w' = w4.drew.setRow G (rl 8).toArray := ⟨_, rfl⟩
  rw [← hw]
  have hR5 : RowR w5 G 8 := by rw [hw]; exact RowR.setRow (hR : RowR w4.drew G _)
  have hb5 : Below w.heap.size w w5 := by rw [hw]; exact Below.grown (hb4.drew) (grown_setRow _ _ _) hb4.size (fun k hk => by injection hk with hk; omega)
  clear hw hcp hb4 hR
  have hR := hR5
  clear hR5
  go_wp2
  rw [rounds_succ]
  have hcp := run_cpR w5.drew 3 8 8 (by decide) (g := G) (g2 := G) (dl := 24) (dc := 24) (c2 := 32) hR (by decide) (fun j hj => RowR.cell (hR : RowR w5.drew G 8) j hj)
  go_wp2
  go_region
  obtain ⟨w6, hw⟩ : ∃ w', w' = w5.drew.setRow G (rl 16).toArray := ⟨_, rfl⟩
  rw [← hw]
  have hR6 : RowR w6 G 16 := by rw [hw]; exact RowR.setRow (hR : RowR w5.drew G _)
  have hb6 : Below w.heap.size w w6 := by rw [hw]; exact Below.grown (hb5.drew) (grown_setRow _ _ _) hb5.size (fun k hk => by injection hk with hk; omega)
  clear hw hcp hb5 hR
  have hR := hR6
  clear hR6
  go_wp2
  rw [rounds_succ]
  have hcp := run_cpR w6.drew 3 16 16 (by decide) (g := G) (g2 := G) (dl := 16) (dc := 16) (c2 := 32) hR (by decide) (fun j hj => RowR.cell (hR : RowR w6.drew G 16) j hj)
  go_wp2
  go_region
  obtain ⟨w7, hw⟩ : ∃ w', w' = w6.drew.setRow G (rl 32).toArray := ⟨_, rfl⟩
  rw [← hw]
  have hR7 : RowR w7 G 32 := by rw [hw]; exact RowR.setRow (hR : RowR w6.drew G _)
  have hb7 : Below w.heap.size w w7 := by rw [hw]; exact Below.grown (hb6.drew) (grown_setRow _ _ _) hb6.size (fun k hk => by injection hk with hk; omega)
  clear hw hcp hb6 hR
  have hR := hR7
  clear hR7
  go_wp2
  rw [rounds_succ]
  go_wp2
  go_returns
  exact ⟨G, lo, rfl, hR, hb7⟩
set_option maxRecDepth 20000 in
set_option maxHeartbeats 8000000 in
theorem getq_c (g o c : Nat) (b : Nat → Int) (hr : ∀ j, 0 ≤ b j ∧ b j < 256) (w : World) (hg : g < w.heap.size) (hc : ∀ j, j < 32 → w.cell? ⟨g, o + j, none⟩ = some (.int .u8 (b j))) (hCv : CvP w) (hok : Fe.okB b = true) :
    Calls Tryd.prog 28 #[.slice (some ⟨g, o, none⟩) 32 c] w fun e w' => ∃ X Y Z T, e = .returned (.tuple #[.agg (pcs X Y Z T), .bool true]) ∧ PtE X Y Z T (Fe.zf (Fe.gX (Fe.nB b) (Fe.odB b))) (Fe.zf (Fe.nB b)) ∧ Below w.heap.size w w' := by
  refine (getp_c g o c b hr w hg hc hCv).mono ?_
  rintro e w' ⟨⟨_, X, Y, Z, T, he, hX, hY, hZ, hT⟩ | ⟨hn, _⟩, hb⟩
  · refine ⟨X, Y, Z, T, he, ⟨_, _, _, _, hX, hY, hZ, hT, Fe.pa_got hY.lt ?_⟩, hb⟩
    unfold Fe.okB at hok
    exact (Bool.and_eq_true _ _ ▸ hok).2
  rw [hok] at hn; cases hn
set_option maxRecDepth 20000 in
set_option maxHeartbeats 8000000 in
theorem base_c (w : World) (hCv : CvP w) : Calls Tryd.prog 10 #[] w (PostQ (Fe.zf Fe.bX) (Fe.zf Fe.bY) w) := by
  replace hCv := Lib.hid hCv
  go_enter Tryd.func10, Tryd.ntmps10
  go_wp2_with fail
  refine calls_at (fun W0 hW => ?_)
  have k0 : Blk W0 w.heap.size 30 (pcs ⟨0, 0, 0, 0, 0⟩ ⟨0, 0, 0, 0, 0⟩ ⟨0, 0, 0, 0, 0⟩ ⟨0, 0, 0, 0, 0⟩) := by rw [hW]; exact (Blk.new _ _ _).alloc _
  have k1 : Blk W0 (w.heap.size + 1) 5 #[.int .u8 102] := by rw [hW]; exact blk_at (by simp) (Blk.new _ _ _)
  have hb0 : Below w.heap.size w W0 := by rw [hW]; go_grown
  clear hW
  obtain ⟨G0, hG0⟩ : ∃ G0, G0 = w.heap.size := ⟨_, rfl⟩
  rw [← hG0] at k0 ⊢
  have lo0 : w.heap.size ≤ G0 := by omega
  rw [← hG0] at k1
  clear hG0
  refine (repeat_c (G0 + 1) 1 W0 k1.lt (k1.cell 0)).mono ?_
  rintro e w1 ⟨G, hG, rfl, hR, hb⟩
  have n0G : G0 ≠ G := by have := k0.lt; omega
  have loG : w.heap.size ≤ G := by have := hb0.size; omega
  replace k0 := k0.below hb
  replace hb0 := hb0.trans (hb.mono hb0.size)
  clear hb k1 hG
  have q0 := hR.cell 0 (by decide)
  have f0 := Blk.frozen hR 0
  go_wp2_with fail
  refine calls_at (fun W1 hW => ?_)
  have hB : ∀ j, j < 32 → W1.cell? ⟨G, 0 + j, none⟩ = some (.int .u8 (Fe.bb j)) := fun j hj => by
    rw [Nat.zero_add, hW]
    have hS : Blk _ G _ _ := Blk.set_ hR 0 (.int .u8 88)
    rw [hS.cell j]
    unfold Fe.bb
    rcases Nat.eq_zero_or_pos j with rfl | h
    · rfl
    rw [if_neg (by omega)]
    have h0 : ¬ 0 = j := by omega
    rw [Array.getElem?_setIfInBounds, if_neg h0]
    simpa using rl_get hj
  have k0' : Blk W1 G0 30 (pcs ⟨0, 0, 0, 0, 0⟩ ⟨0, 0, 0, 0, 0⟩ ⟨0, 0, 0, 0, 0⟩ ⟨0, 0, 0, 0, 0⟩) := by rw [hW]; exact k0.far (p := ⟨G, 0, none⟩) n0G _
  have hb1 : Below w.heap.size w W1 := by rw [hW]; exact hb0.setCell (by show w.heap.size ≤ G; exact loG) _
  have hGW : G < W1.heap.size := by rw [hW]; simpa [World.setCell] using Blk.lt hR
  clear hW hR q0 f0 k0 hb0
  refine (getq_c G 0 32 Fe.bb Fe.bb_r W1 hGW hB (hCv.out.below hb1 hCv.out.lt) Fe.okB_bb).mono ?_
  rintro e w2 ⟨X, Y, Z, T, rfl, hE, hb⟩
  rw [Fe.nB_bb, Fe.odB_bb, Fe.gX_bb] at hE
  replace hE := Lib.hid hE
  replace k0' := k0'.below hb
  replace hb1 := hb1.trans (hb.mono hb1.size)
  clear hb hB hGW
  have hlt := k0'.lt
  go_wp2_with (first | (refine stPt rfl rfl rfl rfl k0' rfl rfl (by kernel_rfl) ?_; intro w4 k4 hgr2 hsz2) | (refine stPt rfl rfl rfl rfl (Blk.new _ _ _) rfl rfl (by kernel_rfl) ?_; intro w3 k3 hgr hsz; replace k0' := Blk.grown (k0'.alloc _) hgr (fun h => by injection h with h; omega); replace hb1 := Below.grown (hb1.alloc hb1.size _) hgr (by rw [World.size_alloc]; have := hb1.size; omega) (fun k hk => by injection hk with hk; have := hb1.size; omega); clear hgr hsz) | (refine ldPt rfl rfl rfl k3 rfl ?_))
  exact retPt rfl rfl k4 rfl rfl ⟨X, Y, Z, T, rfl, hE.out, hb1.grown hgr2 hb1.size (fun k hk => by injection hk with hk; omega)⟩
end Go.Proofs.YtigcobcpfmnhoaaDoor

namespace Go.Proofs.YtigcobcpfmnhoaaDoor
open Go.RowKit
theorem pt_info : (Tryd.prog.info? 30).map (fun i => (i.zero, i.size, i.bytes)) = some (some (.agg (pcs ⟨0, 0, 0, 0, 0⟩ ⟨0, 0, 0, 0, 0⟩ ⟨0, 0, 0, 0, 0⟩ ⟨0, 0, 0, 0, 0⟩)), 20, 160) := by kernel_rfl
theorem pts_under : Tryd.prog.underlying 57 = some (.slice 30) := by kernel_rfl
def p2 (a b : Fin Fe.P) (i : Nat) : Fin Fe.P := if i = 0 then a else b
def p3 (a b c : Fin Fe.P) (i : Nat) : Fin Fe.P := if i = 0 then a else if i = 1 then b else c
section
variable {ops : Array Oper} {rest : List Oper} {o : Oper} {a : Act} {w : World} {Q : Exit → Act → World → Prop}
end
/-- a slice of n points -/
def SlP (n : Nat) (px py : Nat → Fin Fe.P) : Value → World → Prop := fun v w => ∃ g, v = .slice (some ⟨g, 0, none⟩) n n ∧ g < w.heap.size ∧ PtsAt w g n px py
theorem sta_sl (n : Nat) (px py : Nat → Fin Fe.P) : Sta (SlP n px py) := fun v w w' h hb => by
  obtain ⟨g, hv, hg, hp⟩ := h
  exact ⟨g, hv, Nat.lt_of_lt_of_le hg hb.size, hp.below hg hb⟩
theorem sta_pq (x y : Fin Fe.P) : Sta (fun v _ => PtIs v x y) := fun _ _ _ h _ => h
theorem slP2 {X Y Z T X2 Y2 Z2 T2 : Fe.E} {x y x2 y2 : Fin Fe.P} (w : World) (h : PtE X Y Z T x y) (h2 : PtE X2 Y2 Z2 T2 x2 y2) : SlP 2 (p2 x x2) (p2 y y2) (.slice (some ⟨w.heap.size, 0, none⟩) 2 2) (w.alloc (.cells (pcs X Y Z T ++ pcs X2 Y2 Z2 T2) 30)) := by
  refine ⟨w.heap.size, rfl, by rw [World.size_alloc]; omega, fun i hi => ?_⟩
  have hB : Blk (w.alloc (.cells (pcs X Y Z T ++ pcs X2 Y2 Z2 T2) 30)) w.heap.size 30 _ := Blk.new _ _ _
  rcases (by omega : i = 0 ∨ i = 1) with rfl | rfl
  · refine ⟨X, Y, Z, T, fun j hj => ?_, h⟩
    rw [hB.cell, Nat.zero_mul, Nat.zero_add, Array.getElem?_append_left hj]
  refine ⟨X2, Y2, Z2, T2, fun j hj => ?_, h2⟩
  rw [hB.cell, Array.getElem?_append_right (by rw [pcs_size]; omega), pcs_size, Nat.one_mul, Nat.add_sub_cancel_left]
theorem ax_0 (x y : Fin Fe.P) : Fe.ax 0 1 x y = x := by rw [Fe.ax_comm, Fe.ax_zero]
theorem ay_0 (x y : Fin Fe.P) : Fe.ay 0 1 x y = y := by rw [Fe.ay_comm, Fe.ay_zero]
theorem addq2_c (g : Nat) (x y x2 y2 : Fin Fe.P) (w : World) (hg : g < w.heap.size) (hP : PtsAt w g 2 (p2 x x2) (p2 y y2)) (hCv : CvP w) : Calls Tryd.prog 13 #[.slice (some ⟨g, 0, none⟩) 2 2] w (PostQ (Fe.ax x y x2 y2) (Fe.ay x y x2 y2) w) := by
  have h := padd_c g 2 2 (p2 x x2) (p2 y y2) (by decide) w hg hP hCv
  have e : sumF (p2 x x2) (p2 y y2) 2 = (Fe.ax x y x2 y2, Fe.ay x y x2 y2) := by
    simp only [sumF, p2, if_true, if_neg (by decide : ¬ (1 : Nat) = 0), ax_0, ay_0]
  rw [e] at h
  exact h
theorem addq3_c (g : Nat) (x y x2 y2 x3 y3 : Fin Fe.P) (w : World) (hg : g < w.heap.size) (hP : PtsAt w g 3 (p3 x x2 x3) (p3 y y2 y3)) (hCv : CvP w) : Calls Tryd.prog 13 #[.slice (some ⟨g, 0, none⟩) 3 3] w (PostQ (Fe.ax (Fe.ax x y x2 y2) (Fe.ay x y x2 y2) x3 y3) (Fe.ay (Fe.ax x y x2 y2) (Fe.ay x y x2 y2) x3 y3) w) := by
  have h := padd_c g 3 3 (p3 x x2 x3) (p3 y y2 y3) (by decide) w hg hP hCv
  have e : sumF (p3 x x2 x3) (p3 y y2 y3) 3 = (Fe.ax (Fe.ax x y x2 y2) (Fe.ay x y x2 y2) x3 y3, Fe.ay (Fe.ax x y x2 y2) (Fe.ay x y x2 y2) x3 y3) := by
    simp only [sumF, p3, if_true, if_neg (by decide : ¬ (1 : Nat) = 0), if_neg (by decide : ¬ (2 : Nat) = 0), if_neg (by decide : ¬ (2 : Nat) = 1), ax_0, ay_0]
  rw [e] at h
  exact h
theorem pssameV {X Y Z T X2 Y2 Z2 T2 : Fe.E} {x y x2 y2 : Fin Fe.P} {v : Bool} (hp : PtE X Y Z T x y) (hp2 : PtE X2 Y2 Z2 T2 x2 y2) (h : (decide (x = x2) && decide (y = y2)) = v) (w : World) : Calls Tryd.prog 12 #[.agg (pcs X Y Z T), .agg (pcs X2 Y2 Z2 T2)] w (PostV (.bool v) w) := by
  rw [← h]; exact pssame_c w hp hp2
end Go.Proofs.YtigcobcpfmnhoaaDoor

namespace Go.Proofs.YtigcobcpfmnhoaaDoor
open Go.RowKit
theorem int_under : Tryd.prog.underlying 3 = some (.int .i64) := by kernel_rfl
theorem run_append_room_zeros (w : World) (ty : TypeId) {g n c k : Nat} {cur : Array Value} (hg : w.heap[g]? = some (.cells cur 5 (0, 0))) (hs : cur.size = c) (h0 : 0 < k) (hk : k ≤ 1000000) (hroom : n + k ≤ c) :
    (Builtin.append_ #[22, 3] ty #[.slice (some ⟨g, 0, none⟩) n c, .int .i64 k]).run Tryd.prog w = .ok (.slice (some ⟨g, 0, none⟩) (n + k) c) (w.setRow g (cur.toList.take n ++ cB k (fun _ => 0) ++ cur.toList.drop (n + k)).toArray) := by
  obtain ⟨i, hi, hz, hsz, hby⟩ := info_parts u8_infoK
  have hw : IntKind.i64.wrap (k : Int) = k := by rw [IntKind.wrap_i64]; omega
  have hneg : ¬ ((k : Int) < 0) := by omega
  have h48i : ¬ (281474976710656 < (k : Int) * (i.bytes : Int)) := by rw [hby]; omega
  have hz0 : Builtin.zeroCells (Value.int .u8 0).cells k = (cB k (fun _ => 0)).toArray := by
    simp [Builtin.zeroCells, Value.cells, cB]
    apply Array.ext'
    simp [Nat.mod_one]
  have hst := run_storeCells_at Tryd.prog g n 5 (cB k (fun _ => 0)) 0 cur w hg (by rw [cB_len]; omega) cB_one
  rw [cB_len] at hst
  have hkz : k ≠ 0 := by omega
  have hroom2 : n + k ≤ c := hroom
  simp [Builtin.append_, run_underlying bs_underK, run_underlying int_under, sizeOf, typeInfo, zeroValue, hi, hz, hsz, asInt, asIntOf, hw, hneg, h48i, hkz, hroom2, Addr.add_lit, hz0]
  rw [hst]
  simp
/-- f up to n, and nothing behind -/
def fz (f : Nat → Int) (n j : Nat) : Int := if j < n then f j else 0
theorem cB_fz (f : Nat → Int) (n k : Nat) : cB n f ++ cB k (fun _ => 0) = cB (n + k) (fz f n) := by
  have h1 : cB n f = cB n (fz f n) := cB_congr fun i hi => by unfold fz; rw [if_pos hi]
  rw [h1]
  unfold cB
  rw [List.range_add, List.map_append, List.map_map]
  congr 1
  refine List.map_congr_left fun j _ => ?_
  show Value.int .u8 0 = .int .u8 (fz f n (n + j))
  unfold fz
  rw [if_neg (by omega)]
theorem run_appZ (w : World) (ty : TypeId) {g n c : Nat} {f : Nat → Int} (hR : RowB w g n c f) (k : Nat) (h0 : 0 < k) (hk : k ≤ 1000) (hn : n ≤ 1000000) :
    ∃ g' c' w', (Builtin.append_ #[22, 3] ty #[.slice (some ⟨g, 0, none⟩) n c, .int .i64 k]).run Tryd.prog w = .ok (.slice (some ⟨g', 0, none⟩) (n + k) c') w' ∧ RowB w' g' (n + k) c' (fz f n) ∧ w.grownBy w' (some g) ∧ (g' = g ∨ g' = w.heap.size) := by
  obtain ⟨i, hi, hz, hs, hby⟩ := info_parts u8_infoK
  obtain ⟨cur, h1, h2, h3, h4, h5⟩ := hR
  by_cases hroom : n + k ≤ c
  · refine ⟨g, c, _, run_append_room_zeros w ty h1 h4 h0 (by omega) hroom, ⟨_, setRow_heap w g cur _ _ _ h1, hroom, h3, ?_, ?_⟩, ⟨rfl, rfl, rfl, by simp [World.setRow], fun k _ hk => setRow_other w g k _ (fun e => hk (by rw [e]))⟩, .inl rfl⟩
    · simp [cB_len, h4]; omega
    rw [h5, cB_fz]
    rw [List.take_left' (by rw [cB_len])]
  have hold : (Builtin.firstCells i.size n (.slice (some ⟨g, 0, none⟩) n c)).run Tryd.prog w.drew = .ok (cB n f).toArray w.drew := by
    have hl := run_loadCells_list (P := Tryd.prog) w.drew ⟨g, 0, none⟩ (cB n f) (fun j u hu => by
      have hj : j < n := by
        rcases Nat.lt_or_ge j n with hj | hj
        · exact hj
        rw [List.getElem?_eq_none (by rw [cB_len]; exact hj)] at hu
        cases hu
      rw [add_o, Nat.zero_add]
      rw [cB_get n f j hj] at hu
      rw [← hu]
      exact RowB.cell (w := w) ⟨cur, h1, h2, h3, h4, h5⟩ j hj)
    rw [cB_len] at hl
    simpa [Builtin.firstCells, hs] using hl
  have hr := Lib.run_append_grow_zeros (P := Tryd.prog) w 22 3 ty 5 i (.int .u8 0) .i64 .i64 bs_underK int_under hi hz (some ⟨g, 0, none⟩) n c (cB n f) hold k h0 (by omega) (by omega) (by omega) (by rw [hby]; omega) (growslice_fits (by omega) (by rw [hby]; omega))
  have hge := grownCap_ge w (n + k) c 5
  have hz0 : Builtin.zeroCells (Value.int .u8 0).cells k = (cB k (fun _ => 0)).toArray := by
    simp [Builtin.zeroCells, Value.cells, cB]
    apply Array.ext'
    simp [Nat.mod_one]
  refine ⟨w.heap.size, _, _, hr, ⟨_, heap_alloc_new w.drew _, hge, grownCap_le_maxLen w _ _ _ (by unfold maxLen; omega), ?_, ?_⟩, ⟨rfl, rfl, rfl, by simp, fun k hk h => (World.grownBy_alloc w.drew _ (some g)).block k hk h⟩, .inr rfl⟩
  · simp only [Array.size_append, List.size_toArray, size_zeroCells, cB_len]
    simp [Value.cells]
    omega
  rw [hz0]
  simp only [Array.toList_append]
  rw [cB_fz, List.take_left' (by rw [cB_len])]
section
variable {ops : Array Oper} {rest : List Oper} {o : Oper} {a : Act} {w : World} {Q : Exit → Act → World → Prop}
theorem wpList_appZ (hgd : o.guard = none) {s x : Operand} (ho : o.op = .call { callee := .builtin .append, args := #[s, x], argTypes := #[22, 3] }) {g n c k : Nat} {f : Nat → Int} (hs : a.eval s = .slice (some ⟨g, 0, none⟩) n c) (hx : a.eval x = .int .i64 k) (hR : RowB w g n c f) (h0 : 0 < k) (hk : k ≤ 1000) (hn : n ≤ 1000000)
    (h : ∀ g' c' w', RowB w' g' (n + k) c' (fz f n) → w.grownBy w' (some g) → (g' = g ∨ g' = w.heap.size) → wpList Tryd.prog ops Q rest (a.put o.dst (.slice (some ⟨g', 0, none⟩) (n + k) c')) w') : wpList Tryd.prog ops Q (o :: rest) a w :=
  wpList_plain hgd fun _ hK => by
    obtain ⟨g', c', w', hr, h2, h3, h4⟩ := run_appZ w o.type hR k h0 hk hn
    unfold Oper.wp execOp
    simp only [ho, resolve, invoke, builtin, Sem.run_bind, Sem.run_pure, Result.andThen_ok, List.map_toArray, List.map_cons, List.map_nil, hs, hx, hr]
    exact hK _ _ (h g' c' w' h2 h3 h4)
end
/-- n bytes of one's own -/
def PostBs (n : Nat) (f : Nat → Int) (w : World) (e : Ending) (w' : World) : Prop := ∃ g c, e = .returned (.slice (some ⟨g, 0, none⟩) n c) ∧ w.heap.size ≤ g ∧ RowB w' g n c f ∧ Below w.heap.size w w'
set_option maxRecDepth 20000 in
set_option maxHeartbeats 4000000 in
theorem bytes32_c (g o n c : Nat) (f : Nat → Int) (h1 : 1 ≤ n) (hn : n ≤ 31) (w : World) (hg : g < w.heap.size) (hc : ∀ j, j < n → w.cell? ⟨g, o + j, none⟩ = some (.int .u8 (f j))) : Calls Tryd.prog 9 #[.slice (some ⟨g, o, none⟩) n c] w (PostBs 32 (fz f n) w) := by
  have hR0 : RowB (w.alloc (.cells #[] 5)) w.heap.size 0 0 f := ⟨#[], heap_alloc_new w _, Nat.le_refl _, Nat.zero_le _, rfl, rfl⟩
  have hb0 : Below w.heap.size w (w.alloc (.cells #[] 5)) := (Below.refl _ _).alloc (Nat.le_refl _) _
  have hcs : ∀ j, j < n → (w.alloc (.cells #[] 5)).cell? ((⟨g, o, none⟩ : Addr).add j) = some (.int .u8 (f (0 + j))) := fun j hj => by
    rw [add_o, Nat.zero_add]
    exact (hb0.cell (p := ⟨g, o + j, none⟩) hg).trans (hc j hj)
  replace hR0 := Lib.hid hR0
  replace hcs := Lib.hid hcs
  replace hb0 := Lib.hid hb0
  clear hc hg
  obtain ⟨k, hk⟩ : ∃ k : Nat, n + k = 32 := ⟨32 - n, by omega⟩
  have hki : (32 : Int) - (n : Int) = (k : Int) := by omega
  have hk1 : 0 < k := by omega
  have hk0 := Lib.hid hk
  clear hk
  go_enter Tryd.func9, Tryd.ntmps9
  go_wp2_with (first | (at_builtin; refine wpList_app rfl rfl rfl hR0.out rfl f (fun _ _ => rfl) hcs.out (by omega) ?_; intro g2 c2 w2 hR hgr hcase; rw [Nat.zero_add] at hR ⊢; have hb2 := hb0.out.grown hgr hb0.out.size (fun k hk => by injection hk with hk; omega); have hle : w.heap.size ≤ g2 := (by have := hb0.out.size; rcases hcase with h | h <;> omega); clear hgr hcase hb0 hR0 hcs) | (at_builtin; refine wpList_appZ rfl rfl rfl rfl hR hk1 (by have := hk0.out; omega) (by omega) ?_; intro g3 c3 w3 hR3 hgr3 hcase3; have hP := Lib.hid (show PostBs 32 (fz f n) w (.returned (.slice (some ⟨g3, 0, none⟩) (n + k) c3)) w3 from ⟨g3, c3, by rw [hk0.out], by have := hb2.size; rcases hcase3 with h | h <;> omega, by rw [← hk0.out]; exact hR3, hb2.grown hgr3 hb2.size (fun k hk => by injection hk with hk; omega)⟩); clear hR3 hgr3 hcase3))
  go_returns
  exact hP.out
theorem bytes0_c (w : World) : Calls Tryd.prog 9 #[.slice none 0 0] w (PostBs 32 (fun _ => 0) w) := by
  have hR0 : RowB (w.alloc (.cells #[] 5)) w.heap.size 0 0 (fun _ => 0) := ⟨#[], heap_alloc_new w _, Nat.le_refl _, Nat.zero_le _, rfl, rfl⟩
  have hb0 : Below w.heap.size w (w.alloc (.cells #[] 5)) := (Below.refl _ _).alloc (Nat.le_refl _) _
  replace hR0 := Lib.hid hR0
  replace hb0 := Lib.hid hb0
  go_enter Tryd.func9, Tryd.ntmps9
  go_wp2_with (first | (at_builtin; refine wpList_app0 rfl rfl rfl hR0.out rfl ?_) | (at_builtin; refine wpList_appZ (k := 32) rfl rfl rfl rfl hR0.out (by decide) (by decide) (by decide) ?_; intro g3 c3 w3 hR3 hgr3 hcase3; have hP := Lib.hid (show PostBs 32 (fun _ => 0) w (.returned (.slice (some ⟨g3, 0, none⟩) (0 + 32) c3)) w3 from ⟨g3, c3, rfl, by have := hb0.out.size; rcases hcase3 with h | h <;> omega, hR3.congr (fun i _ => by unfold fz; split <;> rfl), hb0.out.grown hgr3 hb0.out.size (fun k hk => by injection hk with hk; omega)⟩); clear hR3 hgr3 hcase3))
  go_returns
  exact hP.out
/-- n bytes lie at p: nothing is asked where there are none -/
def BAt (w : World) (p : Option Addr) (n : Nat) (b : Nat → Int) : Prop := 0 < n → ∃ g o, p = some ⟨g, o, none⟩ ∧ g < w.heap.size ∧ ∀ j, j < n → w.cell? ⟨g, o + j, none⟩ = some (.int .u8 (b j))
theorem BAt.below {w w' : World} {p : Option Addr} {n : Nat} {b : Nat → Int} (h : BAt w p n b) (hb : Below w.heap.size w w') : BAt w' p n b := fun hn => by
  obtain ⟨g, o, e, hg, hc⟩ := h hn
  exact ⟨g, o, e, Nat.lt_of_lt_of_le hg hb.size, fun j hj => (hb.cell (p := ⟨g, o + j, none⟩) hg).trans (hc j hj)⟩
/-- any bytes as 32: after k of them -/
def foldB (b : Nat → Int) : Nat → Nat → Int
  | 0 => fun _ => 0
  | k + 1 => fun j => if j = k % 32 then bits .xor .u8 (foldB b k (k % 32)) (b k) else foldB b k j
theorem xor_r {x y : Int} (hx : 0 ≤ x ∧ x < 256) (hy : 0 ≤ y ∧ y < 256) : 0 ≤ bits .xor .u8 x y ∧ bits .xor .u8 x y < 256 := by
  have h : ∀ (a b : Fin 256), 0 ≤ bits .xor .u8 (a.val : Int) (b.val : Int) ∧ bits .xor .u8 (a.val : Int) (b.val : Int) < 256 := by decide +kernel
  have := h ⟨x.toNat, by omega⟩ ⟨y.toNat, by omega⟩
  simpa [Int.toNat_of_nonneg hx.1, Int.toNat_of_nonneg hy.1] using this
theorem foldB_r {b : Nat → Int} (hr : ∀ j, 0 ≤ b j ∧ b j < 256) : ∀ k j, 0 ≤ foldB b k j ∧ foldB b k j < 256
  | 0, _ => ⟨Int.le_refl _, by unfold foldB; decide⟩
  | k + 1, j => by
    unfold foldB
    split
    · exact xor_r (foldB_r hr k _) (hr k)
    exact foldB_r hr k j
set_option maxRecDepth 20000 in
set_option maxHeartbeats 4000000 in
theorem fold_c (p : Option Addr) (n c : Nat) (b : Nat → Int) (hn : n ≤ 100) (w : World) (hB : BAt w p n b) : Calls Tryd.prog 8 #[.slice p n c] w (PostBs 32 (foldB b n) w) := by
  have hmk : ∀ w, (Instr.makeSlice 22 (.int .i64 32) (.int .i64 32)).run Tryd.prog w = .ok (.slice (some ⟨w.heap.size, 0, none⟩) 32 32) (w.alloc (.cells (List.replicate 32 (.int .u8 0)).toArray 5)) := fun _ => by kernel_rfl
  go_enter Tryd.func8, Tryd.ntmps8
  go_wp2
  refine at_world (fun W0 hW => ?_)
  have hR : RowB W0 w.heap.size 32 32 (foldB b 0) := by
    rw [hW]
    exact ⟨_, heap_alloc_new w _, Nat.le_refl _, by unfold maxLen; decide, rfl, by unfold foldB; kernel_rfl⟩
  have hb0 : Below w.heap.size w W0 := by rw [hW]; exact (Below.refl _ _).alloc (Nat.le_refl _) _
  clear hW hmk
  obtain ⟨G, hG⟩ : ∃ G, G = w.heap.size := ⟨_, rfl⟩
  rw [← hG] at hR ⊢
  have lo : w.heap.size ≤ G := by omega
  clear hG
  replace hB := Lib.hid hB
  go_loopw [4] (fun i wr => ∃ k : Nat, k ≤ n ∧ i = .int .i64 k ∧ RowB wr G 32 32 (foldB b k) ∧ Below w.heap.size w wr) (fun i _ => (n - intOf i).toNat)
  case atStart => exact ⟨0, by omega, rfl, hR, hb0⟩
  case round =>
    clear hR hb0
    obtain ⟨k, hk, hi, hR, hb⟩ := hrel
    subst hi
    by_cases he : k = n
    · subst he
      have hP := Lib.hid (show PostBs 32 (foldB b k) w (.returned (.slice (some ⟨G, 0, none⟩) 32 32)) wr from ⟨G, 32, rfl, lo, hR, hb⟩)
      have hk100 : (k : Int) ≤ 100 := by omega
      clear hR hb
      go_wp2
      go_returns
      exact hP.out
    have hk0 : (0 : Int) ≤ (k : Int) := by omega
    have hk1 : (k : Int) < (n : Int) := by omega
    have hk100 : (k : Int) < 100 := by omega
    obtain ⟨g, o, rfl, hg, hc⟩ := hB.out (by omega)
    have c1 : wr.cell? ⟨g, o + k, none⟩ = some (.int .u8 (b k)) := (hb.cell (p := ⟨g, o + k, none⟩) hg).trans (hc k (by omega))
    have c0 := hR.cell (k % 32) (by omega)
    have hf := hR.frozen (k % 32)
    have hm0 : (0 : Int) ≤ (k : Int) % 32 := by omega
    have hm1 : (k : Int) % 32 < 32 := by omega
    have hx : foldB b (k + 1) = fun j => if j = k % 32 then bits .xor .u8 (foldB b k (k % 32)) (b k) else foldB b k j := rfl
    have hst := Lib.hid (hR.set_ (k % 32) (by omega) (bits .xor .u8 (foldB b k (k % 32)) (b k)))
    rw [← hx] at hst
    clear hx hc
    have hb2 := Lib.hid (hb.setCell (p := ⟨G, k % 32, none⟩) lo (.int .u8 (bits .xor .u8 (foldB b k (k % 32)) (b k))))
    clear hR hb
    go_wp2
    go_region
    obtain ⟨w3, hw⟩ : ∃ w', w' = (wr.setCell ⟨G, k % 32, none⟩ (.int .u8 (bits .xor .u8 (foldB b k (k % 32)) (b k)))).drew := ⟨_, rfl⟩
    rw [← hw]
    have hR3 : RowB w3 G 32 32 (foldB b (k + 1)) := by rw [hw]; exact hst.out
    have hb3 : Below w.heap.size w w3 := by rw [hw]; exact hb2.out.drew
    clear hw hst hb2 c0 c1 hf hm0 hm1
    go_wp2
    go_roundw
    case rel => exact ⟨k + 1, by omega, by simp, hR3, hb3⟩
    case measure => simp [intOf]; omega
/-- the point that any bytes stand for -/
def ptX (n : Nat) (b : Nat → Int) : Fin Fe.P := if n = 32 ∧ Fe.okB b = true then Fe.zf (Fe.gX (Fe.nB b) (Fe.odB b)) else (mulS (Fe.zf Fe.bX) (Fe.zf Fe.bY) (upto (fun i => (256 - 1 - i, bitB (foldB b n) (256 - 1 - i))) 256)).1
def ptY (n : Nat) (b : Nat → Int) : Fin Fe.P := if n = 32 ∧ Fe.okB b = true then Fe.zf (Fe.nB b) else (mulS (Fe.zf Fe.bX) (Fe.zf Fe.bY) (upto (fun i => (256 - 1 - i, bitB (foldB b n) (256 - 1 - i))) 256)).2
/-- other lengths than 32 -/
theorem getx_c (p : Option Addr) (n c : Nat) (hn : n ≠ 32) (w : World) : Calls Tryd.prog 28 #[.slice p n c] w fun e w' => e = .returned (.tuple #[.agg (pcs ⟨0, 0, 0, 0, 0⟩ ⟨0, 0, 0, 0, 0⟩ ⟨0, 0, 0, 0, 0⟩ ⟨0, 0, 0, 0, 0⟩), .bool false]) ∧ Below w.heap.size w w' := by
  have hne : ¬ (n : Int) = 32 := by omega
  go_enter Tryd.func28, Tryd.ntmps28
  go_wp2_with (refine stPt rfl rfl rfl rfl (Blk.new _ _ _) rfl rfl (by kernel_rfl) ?_; intro w3 k3 hgr hsz)
  exact retPt2 rfl rfl rfl k3 rfl rfl ⟨rfl, ((Below.refl _ _).alloc (Nat.le_refl _) _).grown hgr (by rw [World.size_alloc]; omega) (fun k hk => by injection hk with hk; omega)⟩
set_option maxRecDepth 20000 in
set_option maxHeartbeats 8000000 in
theorem point_c (p : Option Addr) (n c : Nat) (b : Nat → Int) (hr : ∀ j, 0 ≤ b j ∧ b j < 256) (hn : n ≤ 100) (w : World) (hB : BAt w p n b) (hCv : CvP w) : Calls Tryd.prog 15 #[.slice p n c] w (PostQ (ptX n b) (ptY n b) w) := by
  have hG : ∀ w1, Below w.heap.size w w1 → Calls Tryd.prog 28 #[.slice p n c] w1 fun e w' => ∃ X Y Z T ok, e = .returned (.tuple #[.agg (pcs X Y Z T), .bool ok]) ∧ ok = decide (n = 32 ∧ Fe.okB b = true) ∧ (ok = true → PtE X Y Z T (ptX n b) (ptY n b)) ∧ Below w1.heap.size w1 w' := fun w1 hb => by
    by_cases h : n = 32
    · subst h
      obtain ⟨g, o, rfl, hg, hc⟩ := (hB.below hb) (by decide)
      refine (getp_c g o c b hr w1 hg hc (hCv.below hb hCv.lt)).mono ?_
      rintro e w' ⟨⟨hok, X, Y, Z, T, he, hX, hY, hZ, hT⟩ | ⟨hno, he⟩, hbb⟩
      · refine ⟨X, Y, Z, T, true, he, by simp [hok], fun _ => ?_, hbb⟩
        unfold ptX ptY
        rw [if_pos ⟨rfl, hok⟩, if_pos ⟨rfl, hok⟩]
        refine ⟨_, _, _, _, hX, hY, hZ, hT, Fe.pa_got hY.lt ?_⟩
        unfold Fe.okB at hok
        exact (Bool.and_eq_true _ _ ▸ hok).2
      exact ⟨⟨0, 0, 0, 0, 0⟩, ⟨0, 0, 0, 0, 0⟩, ⟨0, 0, 0, 0, 0⟩, ⟨0, 0, 0, 0, 0⟩, false, he, by simp [hno], fun h => (by cases h), hbb⟩
    refine (getx_c p n c h w1).mono ?_
    rintro e w' ⟨he, hbb⟩
    exact ⟨_, _, _, _, false, he, by simp [h], fun h => (by cases h), hbb⟩
  have hF : ∀ w1, Below w.heap.size w w1 → Calls Tryd.prog 8 #[.slice p n c] w1 (PostBs 32 (foldB b n) w1) := fun w1 hb => fold_c p n c b hn w1 (hB.below hb)
  have hM : ¬ (n = 32 ∧ Fe.okB b = true) → ptX n b = (mulS (Fe.zf Fe.bX) (Fe.zf Fe.bY) (upto (fun i => (256 - 1 - i, bitB (foldB b n) (256 - 1 - i))) 256)).1 ∧ ptY n b = (mulS (Fe.zf Fe.bX) (Fe.zf Fe.bY) (upto (fun i => (256 - 1 - i, bitB (foldB b n) (256 - 1 - i))) 256)).2 := fun h => ⟨if_neg h, if_neg h⟩
  obtain ⟨PX, hPX⟩ : ∃ v, ptX n b = v := ⟨_, rfl⟩
  obtain ⟨PY, hPY⟩ : ∃ v, ptY n b = v := ⟨_, rfl⟩
  rw [hPX, hPY] at hG hM ⊢
  clear hPX hPY
  replace hG := Lib.hid hG
  replace hF := Lib.hid hF
  replace hM := Lib.hid hM
  replace hr := Lib.hid hr
  replace hCv := Lib.hid hCv
  clear hB hn
  go_enter Tryd.func15, Tryd.ntmps15
  go_wp2_with fail
  refine calls_at (fun W0 hW => ?_)
  have k0 : Blk W0 w.heap.size 30 (pcs ⟨0, 0, 0, 0, 0⟩ ⟨0, 0, 0, 0, 0⟩ ⟨0, 0, 0, 0, 0⟩ ⟨0, 0, 0, 0, 0⟩) := by rw [hW]; exact Blk.new _ _ _
  have hb0 : Below w.heap.size w W0 := by rw [hW]; go_grown
  clear hW
  obtain ⟨G0, hG0⟩ : ∃ G0, G0 = w.heap.size := ⟨_, rfl⟩
  rw [← hG0] at k0 ⊢
  have lo0 : w.heap.size ≤ G0 := by omega
  clear hG0
  refine (hG.out W0 hb0).mono ?_
  rintro e w1 ⟨X, Y, Z, T, ok, rfl, hok, hE, hb⟩
  replace k0 := k0.below hb
  replace hb0 := hb0.trans (hb.mono hb0.size)
  clear hb
  replace hok := Lib.hid hok
  replace hE := Lib.hid hE
  have hlt := k0.lt
  cases ok
  · have hne : ¬ (n = 32 ∧ Fe.okB b = true) := of_decide_eq_false hok.out.symm
    have hM2 := Lib.hid (hM.out hne)
    clear hne hok hE hM hG
    go_wp2_with (first | (refine stPt rfl rfl rfl rfl (Blk.new _ _ _) rfl rfl (by kernel_rfl) ?_; intro w2 k2 hgr hsz))
    have hbw : Below w1.heap.size w1 w2 := ((Below.refl _ _).alloc (Nat.le_refl _) _).grown hgr (by rw [World.size_alloc]; omega) (fun k hk => by injection hk with hk; omega)
    replace k0 := k0.below hbw
    replace hb0 := hb0.trans (hbw.mono hb0.size)
    clear hgr hsz hbw k2 hlt
    refine (hF.out w2 hb0).mono ?_
    rintro e w3 ⟨g, c2, rfl, hg, hR, hb⟩
    replace k0 := k0.below hb
    replace hb0 := hb0.trans (hb.mono hb0.size)
    clear hb hg hF
    replace hR := Lib.hid hR
    go_wp2_with fail
    refine (base_c w3 (hCv.out.below hb0 hCv.out.lt)).mono ?_
    rintro e w4 ⟨X2, Y2, Z2, T2, rfl, hE, hb⟩
    replace k0 := k0.below hb
    replace hb0 := hb0.trans (hb.mono hb0.size)
    replace hE := Lib.hid hE
    have hR4 := Lib.hid (hR.out.below hb)
    clear hb hR
    go_wp2_with fail
    refine (pmul_c g 0 c2 (foldB b n) (foldB_r hr.out n) w4 hR4.out.lt (fun j hj => by rw [Nat.zero_add]; exact hR4.out.cell j hj) hE.out (hCv.out.below hb0 hCv.out.lt)).mono ?_
    rintro e w5 ⟨X3, Y3, Z3, T3, rfl, hE3, hb⟩
    rw [← hM2.out.1, ← hM2.out.2] at hE3
    replace k0 := k0.below hb
    replace hb0 := hb0.trans (hb.mono hb0.size)
    replace hE3 := Lib.hid hE3
    clear hb hR4 hE
    go_wp2_with (first | (refine stPt rfl rfl rfl rfl k0 rfl rfl (by kernel_rfl) ?_; intro w6 k6 hgr hsz))
    exact retPt rfl rfl k6 rfl rfl ⟨X3, Y3, Z3, T3, rfl, hE3.out, hb0.grown hgr hb0.size (fun k hk => by injection hk with hk; omega)⟩
  have hE2 := Lib.hid (hE.out rfl)
  clear hE hok hM hG hF hr
  go_wp2_with (first | (refine stPt rfl rfl rfl rfl k0 rfl rfl (by kernel_rfl) ?_; intro w6 k6 hgr2 hsz2) | (refine stPt rfl rfl rfl rfl (Blk.new _ _ _) rfl rfl (by kernel_rfl) ?_; intro w2 k2 hgr hsz; replace k0 := Blk.grown (k0.alloc _) hgr (fun h => by injection h with h; omega); replace hb0 := Below.grown (hb0.alloc hb0.size _) hgr (by rw [World.size_alloc]; have := hb0.size; omega) (fun k hk => by injection hk with hk; have := hb0.size; omega); clear hgr hsz) | (refine ldPt rfl rfl rfl k2 rfl ?_))
  exact retPt rfl rfl k6 rfl rfl ⟨X, Y, Z, T, rfl, hE2.out, hb0.grown hgr2 hb0.size (fun k hk => by injection hk with hk; omega)⟩
end Go.Proofs.YtigcobcpfmnhoaaDoor

namespace Fe
/-- 1, and zeros -/
def b1 (j : Nat) : Int := if j < 1 then 1 else 0
def b2 (j : Nat) : Int := if j = 31 then 128 else b1 j
theorem b1_r (j : Nat) : 0 ≤ b1 j ∧ b1 j < 256 := by unfold b1; split <;> omega
theorem b2_r (j : Nat) : 0 ≤ b2 j ∧ b2 j < 256 := by unfold b2; split; omega; exact b1_r j
theorem nB_of {b : Nat → Int} (hr : ∀ j, 0 ≤ b j ∧ b j < 256) {n : Nat} (h2 : sy (clr b) 31 + clr b 31 % 128 * 256 ^ 31 = (n : Int)) (hn : ((n : Int) % p) = (n : Int)) : nB b = n := by
  unfold nB
  have h := val_get (clr_r hr)
  rw [h2] at h
  have h3 := nv_int (getE (clr b) 255)
  rw [h, hn] at h3
  exact Int.ofNat.inj h3
theorem nB_1 : nB b1 = 1 := nB_of b1_r (by decide +kernel) (by decide +kernel)
theorem nB_2 : nB b2 = 1 := nB_of b2_r (by decide +kernel) (by decide +kernel)
theorem odB_1 : odB b1 = false := by decide
theorem odB_2 : odB b2 = true := by decide
theorem uN_1 : uN 1 = 0 := by decide +kernel
theorem getOk_1 : Go.Proofs.YtigcobcpfmnhoaaDoor.getOk (clr b1) = true := by
  rw [ok_same (clr_r b1_r)]
  decide +kernel
theorem okB_1 : okB b1 = true := by
  unfold okB gB
  rw [getOk_1, nB_1, odB_1, uN_1, rN_0.1]
  rfl
theorem okB_2 : okB b2 = false := by
  unfold okB gB
  rw [nB_2, odB_2, uN_1, rN_0.1, rN_0.2]
  simp
theorem x_1 : zf (gX (nB b1) (odB b1)) = 0 := by
  rw [nB_1, odB_1, Go.Proofs.YtigcobcpfmnhoaaDoor.gX_f, uN_1, rN_0.2]
  rfl
theorem y_1 : zf (nB b1) = 1 := by rw [nB_1, zf_1]
theorem put_base : ∀ j, j < 32 → Go.Proofs.YtigcobcpfmnhoaaDoor.ptB (zf bY).val (zf bX).val j = bb j := by
  have h1 : (zf bY).val = bY := by show bY % P = bY; decide +kernel
  have h2 : (zf bX).val = bX := by show bX % P = bX; decide +kernel
  rw [h1, h2]
  decide +kernel
end Fe

namespace Go.Proofs.YtigcobcpfmnhoaaDoor
open Go.RowKit
theorem getn_c (g o c : Nat) (b : Nat → Int) (hr : ∀ j, 0 ≤ b j ∧ b j < 256) (w : World) (hg : g < w.heap.size) (hc : ∀ j, j < 32 → w.cell? ⟨g, o + j, none⟩ = some (.int .u8 (b j))) (hCv : CvP w) (hok : Fe.okB b = false) :
    Calls Tryd.prog 28 #[.slice (some ⟨g, o, none⟩) 32 c] w fun e w' => e = .returned (.tuple #[.agg (pcs ⟨0, 0, 0, 0, 0⟩ ⟨0, 0, 0, 0, 0⟩ ⟨0, 0, 0, 0, 0⟩ ⟨0, 0, 0, 0, 0⟩), .bool false]) ∧ Below w.heap.size w w' := by
  refine (getp_c g o c b hr w hg hc hCv).mono ?_
  rintro e w' ⟨⟨h, _⟩ | ⟨_, he⟩, hb⟩
  · rw [hok] at h; cases h
  exact ⟨he, hb⟩
theorem ldPtG {ops : Array Oper} {rest : List Oper} {o : Oper} {a : Act} {w : World} {Q : Exit → Act → World → Prop} (hw : Region.wanted o (yielded ops a.tmps) = true) {x : Operand} (ho : o.op = .load 30 x) {g : Nat} {ty : TypeId} {X Y Z T : Fe.E} (hx : a.eval x = .pointer (some ⟨g, 0, none⟩)) (hg : Blk w g ty (pcs X Y Z T)) (h : wpList Tryd.prog ops Q rest (a.put o.dst (.agg (pcs X Y Z T))) w) : wpList Tryd.prog ops Q (o :: rest) a w := by
  obtain ⟨d, hd, hs2⟩ := pt_under
  refine wpList_step fun K hK => ?_
  simp only [hw, if_true]
  exact wp_load_row 30 x ho g hx ty (pcs X Y Z T) (0, 0) d hg hd (by revert hs2; cases d <;> exact fun h => h) pt_size (hK _ _ h)
theorem bs2G {ops : Array Oper} {rest : List Oper} {o : Oper} {a : Act} {w : World} {Q : Exit → Act → World → Prop} (hw : Region.wanted o (yielded ops a.tmps) = true) {p q : Operand} (ho : o.op = .buildSlice 57 2 #[(0, p), (1, q)]) {X Y Z T X2 Y2 Z2 T2 : Fe.E} (hp : a.eval p = .agg (pcs X Y Z T)) (hq : a.eval q = .agg (pcs X2 Y2 Z2 T2))
    (h : wpList Tryd.prog ops Q rest (a.put o.dst (.slice (some ⟨w.heap.size, 0, none⟩) 2 2)) (w.alloc (.cells (pcs X Y Z T ++ pcs X2 Y2 Z2 T2) 30))) : wpList Tryd.prog ops Q (o :: rest) a w := by
  obtain ⟨ie, hi, hz, hs, _⟩ := info_parts pt_info
  refine wpList_step fun K hK => ?_
  simp only [hw, if_true]
  refine wp_buildSlice _ 30 2 _ ho _ ie _ pts_under hi hz (by rw [hs]; decide) (by rw [hs]; decide) ?_ (hK _ _ h)
  rw [hs]
  simp only [List.map_toArray, List.map_cons, List.map_nil, hp, hq]
  kernel_rfl
def PqP (x y : Fin Fe.P) : Value → World → Prop := fun v _ => ∃ X Y Z T, v = .agg (pcs X Y Z T) ∧ PtE X Y Z T x y
theorem same_01 : (decide ((0 : Fin Fe.P) = 0) && decide ((1 : Fin Fe.P) = 1)) = true := by rw [decide_eq_true rfl, decide_eq_true rfl]; rfl
theorem same_neg : (decide (Fe.ax (Fe.zf Fe.bX) (Fe.zf Fe.bY) (-(Fe.zf Fe.bX)) (Fe.zf Fe.bY) = 0) && decide (Fe.ay (Fe.zf Fe.bX) (Fe.zf Fe.bY) (-(Fe.zf Fe.bX)) (Fe.zf Fe.bY) = 1)) = true := by rw [decide_eq_true (Fe.ax_neg _ _), decide_eq_true (Fe.ay_neg Fe.cv_base)]; rfl
def aw13L  : List (Value → World → Prop) := [
  PqP 0 1,
  PqP 0 1,
  Eq1 (.bool true),
  Eq1 (.bool true),
  PqP (Fe.zf Fe.bX) (Fe.zf Fe.bY),
  PqP (Fe.zf Fe.bX) (Fe.zf Fe.bY),
  PqP (-(Fe.zf Fe.bX)) (Fe.zf Fe.bY),
  SlP 2 (p2 (Fe.zf Fe.bX) (-(Fe.zf Fe.bX))) (p2 (Fe.zf Fe.bY) (Fe.zf Fe.bY)),
  PqP (Fe.ax (Fe.zf Fe.bX) (Fe.zf Fe.bY) (-(Fe.zf Fe.bX)) (Fe.zf Fe.bY)) (Fe.ay (Fe.zf Fe.bX) (Fe.zf Fe.bY) (-(Fe.zf Fe.bX)) (Fe.zf Fe.bY)),
  PqP 0 1,
  Eq1 (.bool true),
  Eq1 (.bool true),
  Eq1 (.bool true),
  PqP (Fe.zf Fe.bX) (Fe.zf Fe.bY),
  Eq1 (.bool true),
  Eq1 (.bool true),
  Eq1 (.bool true)]
theorem aw13S  : ∀ j x' q q', (aw13L ).getD j (fun _ _ => True) x' q → Below q.heap.size q q' → (aw13L ).getD j (fun _ _ => True) x' q' := by
  refine sta_all _ ?_
  simp only [aw13L, List.mem_cons, forall_eq_or_imp, List.not_mem_nil, false_implies, implies_true, and_true]
  exact ⟨sta_pq _ _, sta_pq _ _, sta_eq _, sta_eq _, sta_pq _ _, sta_pq _ _, sta_pq _ _, sta_sl _ _ _, sta_pq _ _, sta_pq _ _, sta_eq _, sta_eq _, sta_eq _, sta_pq _ _, sta_eq _, sta_eq _, sta_eq _⟩
set_option maxRecDepth 20000 in
set_option maxHeartbeats 8000000 in
theorem awake4_c (w : World) (hCv : CvP w) : Calls Tryd.prog 7 #[] w fun e w' => e = .returned (.bool true) ∧ Below w.heap.size w w' := by
  replace hCv := Lib.hid hCv
  go_enter Tryd.func7, Tryd.ntmps7
  go_wp2_with fail
  refine (base_c w hCv.out).mono ?_
  rintro e w1 ⟨X, Y, Z, T, rfl, hE, hb0⟩
  replace hE := Lib.hid hE
  go_wp2_with fail
  refine (pput_c w1 hE.out).mono ?_
  rintro e w2 ⟨g1, hg1, rfl, hR, hb⟩
  replace hR := hR.congr Fe.put_base
  replace hb0 := hb0.trans (hb.mono hb0.size)
  clear hb hE hg1
  have lt1 := hR.lt
  go_wp2_with fail
  refine calls_at (fun W0 hW => ?_)
  have hR0 : RowB W0 g1 32 32 Fe.bb := by rw [hW]; exact hR.below ((Below.refl _ _).alloc (Nat.le_refl _) _)
  have hb : Below w2.heap.size w2 W0 := by rw [hW]; exact (Below.refl _ _).alloc (Nat.le_refl _) _
  have hk : Blk W0 w2.heap.size 5 #[.int .u8 1] := by rw [hW]; exact Blk.new _ _ _
  replace hb0 := hb0.trans (hb.mono hb0.size)
  clear hW hb hR lt1
  refine (bytes32_c w2.heap.size 0 1 1 (fun _ => 1) (by decide) (by decide) W0 hk.lt (fun j hj => by obtain rfl : j = 0 := (by omega); exact hk.cell 0)).mono ?_
  rintro e w3 ⟨g2, c2, rfl, hg2, hR2, hb⟩
  replace hR0 := hR0.below hb
  replace hb0 := hb0.trans (hb.mono hb0.size)
  clear hb hk hg2
  replace hR0 := Lib.hid hR0
  replace hR2 := Lib.hid hR2
  go_wp2_with fail
  refine (getq_c g2 0 c2 Fe.b1 Fe.b1_r w3 hR2.out.lt (fun j hj => by rw [Nat.zero_add]; exact hR2.out.cell j hj) (hCv.out.below hb0 hCv.out.lt) Fe.okB_1).mono ?_
  rintro e w4 ⟨X1, Y1, Z1, T1, rfl, hE1, hb⟩
  rw [Fe.x_1, Fe.y_1] at hE1
  replace hR0 := Lib.hid (hR0.out.below hb)
  replace hb0 := hb0.trans (hb.mono hb0.size)
  replace hE1 := Lib.hid hE1
  clear hb hR2
  go_wp2_with (first | (refine stPt rfl rfl rfl rfl (Blk.new _ _ _) rfl rfl (by kernel_rfl) ?_; intro w5 k5 hgr hsz))
  have hb : Below w4.heap.size w4 w5 := ((Below.refl _ _).alloc (Nat.le_refl _) _).grown hgr (by rw [World.size_alloc]; omega) (fun k hk => by injection hk with hk; omega)
  obtain ⟨G5, hG5⟩ : ∃ G5, G5 = w4.heap.size := ⟨_, rfl⟩
  rw [← hG5] at k5 ⊢
  have hs5 : G5 + 1 = w5.heap.size := by rw [hsz, World.size_alloc, hG5]
  have lo5 : w.heap.size ≤ G5 := by have := hb0.size; omega
  replace hR0 := Lib.hid (hR0.out.below hb)
  replace hb0 := hb0.trans (hb.mono hb0.size)
  clear hgr hsz hb hG5
  refine calls_at (fun W0 hW => ?_)
  have hb : Below w5.heap.size w5 W0 := by rw [hW]; exact (Below.refl _ _).alloc (Nat.le_refl _) _
  have hk : Blk W0 (G5 + 1) 5 #[.int .u8 1] := by rw [hW, hs5]; exact Blk.new _ _ _
  replace k5 := k5.below hb
  replace hR0 := Lib.hid (hR0.out.below hb)
  replace hb0 := hb0.trans (hb.mono hb0.size)
  clear hW hb hs5
  refine (bytes32_c (G5 + 1) 0 1 1 (fun _ => 1) (by decide) (by decide) W0 hk.lt (fun j hj => by obtain rfl : j = 0 := (by omega); exact hk.cell 0)).mono ?_
  rintro e w6 ⟨g3, c3, rfl, hg3, hR3, hb⟩
  have n53 : G5 ≠ g3 := by have := k5.lt; omega
  have n13 : g1 ≠ g3 := by have := hR0.out.lt; omega
  have lo3 : w.heap.size ≤ g3 := by have := hb0.size; omega
  replace k5 := k5.below hb
  replace hR0 := Lib.hid (hR0.out.below hb)
  replace hb0 := hb0.trans (hb.mono hb0.size)
  clear hb hk hg3
  have c31 := hR3.cell 31 (by decide)
  have f31 := hR3.frozen 31
  go_wp2_with fail
  refine calls_at (fun W0 hW => ?_)
  have hR4 : RowB W0 g3 32 c3 Fe.b2 := by rw [hW]; exact (hR3.set_ 31 (by decide) 128).congr (fun i _ => rfl)
  replace k5 : Blk W0 G5 30 (pcs X1 Y1 Z1 T1) := by rw [hW]; exact k5.far (p := ⟨g3, 31, none⟩) n53 _
  have hR0 : RowB W0 g1 32 32 Fe.bb := by rw [hW]; exact hR0.out.far (p := ⟨g3, 31, none⟩) n13 _
  replace hb0 : Below w.heap.size w W0 := by rw [hW]; exact hb0.setCell (by show w.heap.size ≤ g3; exact lo3) _
  clear hW hR3 c31 f31
  replace hR0 := Lib.hid hR0
  refine (getn_c g3 0 c3 Fe.b2 Fe.b2_r W0 hR4.lt (fun j hj => by rw [Nat.zero_add]; exact hR4.cell j hj) (hCv.out.below hb0 hCv.out.lt) Fe.okB_2).mono ?_
  rintro e w7 ⟨rfl, hb⟩
  replace k5 := k5.below hb
  have hR0 := hR0.out.below hb
  replace hb0 := hb0.trans (hb.mono hb0.size)
  clear hb hR4
  have hlt := hR0.lt
  have c0 := hR0.cell 0 (by decide)
  have hlt5 := k5.lt
  rw [show Fe.bb 0 = 88 from rfl] at c0
  replace hR0 := Lib.hid hR0
  go_wp2_with (first | (refine stPt rfl rfl rfl rfl (Blk.new _ _ _) rfl rfl (by kernel_rfl) ?_; intro w8 k8 hgr hsz; have hbw : Below w7.heap.size w7 w8 := ((Below.refl _ _).alloc (Nat.le_refl _) _).grown hgr (by rw [World.size_alloc]; omega) (fun k hk => by injection hk with hk; omega); replace k5 := k5.below hbw; have hR8 := hR0.out.below hbw; replace hb0 := hb0.trans (hbw.mono hb0.size); clear hgr hsz k8 hbw c0 hlt hlt5; have c0 := hR8.cell 0 (by decide); rw [show Fe.bb 0 = 88 from rfl] at c0; replace hR8 := Lib.hid hR8; clear hR0))
  go_loopw [7] (fun i wr => ∃ k : Nat, 1 ≤ k ∧ k ≤ 32 ∧ i = .int .i64 k ∧ wr = w8) (fun i _ => (32 - intOf i).toNat)
  case atStart => exact ⟨1, by decide, by decide, rfl, rfl⟩
  case round =>
    obtain ⟨k, h1, h32, hi, hwr⟩ := hrel
    subst hi
    subst hwr
    clear c0
    by_cases he : k = 32
    · subst he
      go_wp2
      have hC8 := Lib.hid (hCv.out.below hb0 hCv.out.lt)
      refine wp_region_grow2 17 (fun k => Nat.beq k 0 || (Nat.ble 50 k && Nat.ble k 65)) _ [] (fun j x' q => (aw13L ).getD j (fun _ _ => True) x' q) (fun _ => false) (fun f => #[f 0, .slice (some ⟨g1, 0, none⟩) 32 32, .pointer (some ⟨G5, 0, none⟩), .bool true, .slice (some ⟨g3, 0, none⟩) 32 c3, .pointer (some ⟨w7.heap.size, 0, none⟩), .bool false, .int .i64 ((32 : Nat) : Int), .agg (pcs X Y Z T), .slice (some ⟨g1, 0, none⟩) 32 32, .tuple #[.agg (pcs X1 Y1 Z1 T1), .bool true], .slice (some ⟨w2.heap.size, 0, none⟩) 1 1, .slice (some ⟨g2, 0, none⟩) 32 c2, .tuple #[.agg (pcs X1 Y1 Z1 T1), .bool true], .agg (pcs X1 Y1 Z1 T1), .bool true, .slice (some ⟨(G5 + 1), 0, none⟩) 1 1, .slice (some ⟨g3, 0, none⟩) 32 c3, .slice (some ⟨g3, 0, none⟩) 32 c3, .pointer (some ⟨g3, 31, none⟩), .tuple #[.agg (pcs ⟨0, 0, 0, 0, 0⟩ ⟨0, 0, 0, 0, 0⟩ ⟨0, 0, 0, 0, 0⟩ ⟨0, 0, 0, 0, 0⟩), .bool false], .slice (some ⟨g3, 0, none⟩) 32 c3, .tuple #[.agg (pcs ⟨0, 0, 0, 0, 0⟩ ⟨0, 0, 0, 0, 0⟩ ⟨0, 0, 0, 0, 0⟩ ⟨0, 0, 0, 0, 0⟩), .bool false], .agg (pcs ⟨0, 0, 0, 0, 0⟩ ⟨0, 0, 0, 0, 0⟩ ⟨0, 0, 0, 0, 0⟩ ⟨0, 0, 0, 0, 0⟩), .bool false, .slice (some ⟨g1, 0, none⟩) 32 32, .int .i64 32, .bool false, .bool false, .slice (some ⟨g1, 0, none⟩) 32 32, .pointer (some ⟨g1, 0, none⟩), .int .u8 88, .bool false, .bool false, .bool false, .bool true, .bool false, .bool false, .bool false, .bool false, .bool false, .int .i64 ((32 : Nat) : Int), .bool false, u43, u44, u45, u46, u47, u48, u49, f 50, f 51, f 52, f 53, f 54, f 55, f 56, f 57, f 58, f 59, f 60, f 61, f 62, f 63, f 64, f 65]) (fun f => rfl) (by kernel_rfl) (by kernel_rfl) (by kernel_rfl) (by kernel_rfl) (by kernel_rfl) (aw13S ) (fun _ _ _ h => by cases h) ?_ ?_
      · refine steps2_cons ?_ ?_
        · as_aux_lemma =>
          intro f w1 hb hd Q hK
          clear hd
          have hK := Lib.hid hK
          refine ldPtG (by kernel_rfl) rfl rfl (k5.below hb) ?_
          refine wpList_nil ?_
          exact hK.out _ _ ⟨_, _, _, _, rfl, hE1.out⟩ (.refl _ _) nof
        refine steps2_cons ?_ ?_
        · as_aux_lemma =>
          intro f w1 hb hd Q hK
          clear hd
          have hK := Lib.hid hK
          go_wp2_with fail
          refine (pzero_c _).mono ?_
          rintro e w2 ⟨X, Y, Z, T, rfl, hx, hb2⟩
          go_wp2
          exact hK.out _ _ ⟨X, Y, Z, T, rfl, hx⟩ hb2 nof
        refine steps2_cons ?_ ?_
        · as_aux_lemma =>
          intro f w1 hb hd Q hK
          obtain ⟨X50, Y50, Z50, T50, e50, h50⟩ := (hd.1 rfl : PqP 0 1 (f 50) w1)
          obtain ⟨X51, Y51, Z51, T51, e51, h51⟩ := (hd.2.1 rfl : PqP 0 1 (f 51) w1)
          clear hd
          simp only [e50, e51] at hK
          have hK := Lib.hid hK
          go_wp2_with fail
          refine (pssameV h50 h51 same_01 _).mono ?_
          rintro e w2 ⟨rfl, hb2⟩
          go_wp2
          exact hK.out _ _ rfl hb2 nof
        refine steps2_cons ?_ ?_
        · as_aux_lemma =>
          intro f w1 hb hd Q hK
          have e52 : f 52 = .bool true := hd.1 rfl
          clear hd
          simp only [e52] at hK
          have hK := Lib.hid hK
          go_wp2
          exact hK.out _ _ rfl (.refl _ _) nof
        refine steps2_cons ?_ ?_
        · as_aux_lemma =>
          intro f w1 hb hd Q hK
          have e53 : f 53 = .bool true := hd.1 rfl
          clear hd
          simp only [e53] at hK
          have hK := Lib.hid hK
          go_wp2_with fail
          refine (base_c _ (hC8.out.below hb hC8.out.lt)).mono ?_
          rintro e w2 ⟨X, Y, Z, T, rfl, hx, hb2⟩
          go_wp2
          exact hK.out _ _ ⟨X, Y, Z, T, rfl, hx⟩ hb2 nof
        refine steps2_cons ?_ ?_
        · as_aux_lemma =>
          intro f w1 hb hd Q hK
          have e53 : f 53 = .bool true := hd.2.1 rfl
          clear hd
          simp only [e53] at hK
          have hK := Lib.hid hK
          go_wp2_with fail
          refine (base_c _ (hC8.out.below hb hC8.out.lt)).mono ?_
          rintro e w2 ⟨X, Y, Z, T, rfl, hx, hb2⟩
          go_wp2
          exact hK.out _ _ ⟨X, Y, Z, T, rfl, hx⟩ hb2 nof
        refine steps2_cons ?_ ?_
        · as_aux_lemma =>
          intro f w1 hb hd Q hK
          obtain ⟨X55, Y55, Z55, T55, e55, h55⟩ := (hd.1 rfl : PqP (Fe.zf Fe.bX) (Fe.zf Fe.bY) (f 55) w1)
          have e53 : f 53 = .bool true := hd.2.2.1 rfl
          clear hd
          simp only [e55, e53] at hK
          have hK := Lib.hid hK
          go_wp2_with fail
          refine (pneg_c _ h55).mono ?_
          rintro e w2 ⟨X, Y, Z, T, rfl, hx, hb2⟩
          go_wp2
          exact hK.out _ _ ⟨X, Y, Z, T, rfl, hx⟩ hb2 nof
        refine steps2_cons ?_ ?_
        · as_aux_lemma =>
          intro f w1 hb hd Q hK
          obtain ⟨X54, Y54, Z54, T54, e54, h54⟩ := (hd.1 rfl : PqP (Fe.zf Fe.bX) (Fe.zf Fe.bY) (f 54) w1)
          obtain ⟨X56, Y56, Z56, T56, e56, h56⟩ := (hd.2.1 rfl : PqP (-(Fe.zf Fe.bX)) (Fe.zf Fe.bY) (f 56) w1)
          have e53 : f 53 = .bool true := hd.2.2.1 rfl
          clear hd
          simp only [e54, e56, e53] at hK
          have hK := Lib.hid hK
          refine bs2G (by simp only [e54, e56, e53]; kernel_rfl) rfl e54 e56 ?_
          refine wpList_nil ?_
          simp only [e54, e56, e53]
          exact hK.out _ _ (slP2 _ h54 h56) ((Below.refl _ _).alloc (Nat.le_refl _) _) nof
        refine steps2_cons ?_ ?_
        · as_aux_lemma =>
          intro f w1 hb hd Q hK
          obtain ⟨g57, e57, lt57, h57⟩ := (hd.1 rfl : SlP 2 (p2 (Fe.zf Fe.bX) (-(Fe.zf Fe.bX))) (p2 (Fe.zf Fe.bY) (Fe.zf Fe.bY)) (f 57) w1)
          have e53 : f 53 = .bool true := hd.2.2.1 rfl
          clear hd
          simp only [e57, e53] at hK
          have hK := Lib.hid hK
          go_wp2_with fail
          refine (addq2_c g57 _ _ _ _ _ lt57 h57 (hC8.out.below hb hC8.out.lt)).mono ?_
          rintro e w2 ⟨X, Y, Z, T, rfl, hx, hb2⟩
          go_wp2
          exact hK.out _ _ ⟨X, Y, Z, T, rfl, hx⟩ hb2 nof
        refine steps2_cons ?_ ?_
        · as_aux_lemma =>
          intro f w1 hb hd Q hK
          have e53 : f 53 = .bool true := hd.2.1 rfl
          clear hd
          simp only [e53] at hK
          have hK := Lib.hid hK
          go_wp2_with fail
          refine (pzero_c _).mono ?_
          rintro e w2 ⟨X, Y, Z, T, rfl, hx, hb2⟩
          go_wp2
          exact hK.out _ _ ⟨X, Y, Z, T, rfl, hx⟩ hb2 nof
        refine steps2_cons ?_ ?_
        · as_aux_lemma =>
          intro f w1 hb hd Q hK
          obtain ⟨X58, Y58, Z58, T58, e58, h58⟩ := (hd.1 rfl : PqP (Fe.ax (Fe.zf Fe.bX) (Fe.zf Fe.bY) (-(Fe.zf Fe.bX)) (Fe.zf Fe.bY)) (Fe.ay (Fe.zf Fe.bX) (Fe.zf Fe.bY) (-(Fe.zf Fe.bX)) (Fe.zf Fe.bY)) (f 58) w1)
          obtain ⟨X59, Y59, Z59, T59, e59, h59⟩ := (hd.2.1 rfl : PqP 0 1 (f 59) w1)
          have e53 : f 53 = .bool true := hd.2.2.2.1 rfl
          clear hd
          simp only [e58, e59, e53] at hK
          have hK := Lib.hid hK
          go_wp2_with fail
          refine (pssameV h58 h59 same_neg _).mono ?_
          rintro e w2 ⟨rfl, hb2⟩
          go_wp2
          exact hK.out _ _ rfl hb2 nof
        refine steps2_cons ?_ ?_
        · as_aux_lemma =>
          intro f w1 hb hd Q hK
          have e53 : f 53 = .bool true := hd.1 rfl
          have e60 : f 60 = .bool true := hd.2.1 rfl
          clear hd
          simp only [e53, e60] at hK
          have hK := Lib.hid hK
          go_wp2
          exact hK.out _ _ rfl (.refl _ _) nof
        refine steps2_cons ?_ ?_
        · as_aux_lemma =>
          intro f w1 hb hd Q hK
          have e61 : f 61 = .bool true := hd.1 rfl
          clear hd
          simp only [e61] at hK
          have hK := Lib.hid hK
          go_wp2
          exact hK.out _ _ rfl (.refl _ _) nof
        refine steps2_cons ?_ ?_
        · as_aux_lemma =>
          intro f w1 hb hd Q hK
          have e62 : f 62 = .bool true := hd.1 rfl
          clear hd
          simp only [e62] at hK
          have hK := Lib.hid hK
          go_wp2_with fail
          refine (base_c _ (hC8.out.below hb hC8.out.lt)).mono ?_
          rintro e w2 ⟨X, Y, Z, T, rfl, hx, hb2⟩
          go_wp2
          exact hK.out _ _ ⟨X, Y, Z, T, rfl, hx⟩ hb2 nof
        refine steps2_cons ?_ ?_
        · as_aux_lemma =>
          intro f w1 hb hd Q hK
          obtain ⟨X63, Y63, Z63, T63, e63, h63⟩ := (hd.1 rfl : PqP (Fe.zf Fe.bX) (Fe.zf Fe.bY) (f 63) w1)
          have e62 : f 62 = .bool true := hd.2.2.1 rfl
          clear hd
          simp only [e63, e62] at hK
          have hK := Lib.hid hK
          go_wp2_with fail
          refine (pson_c _ h63 (hC8.out.below hb hC8.out.lt)).mono ?_
          rintro e w2 ⟨rfl, hb2⟩
          go_wp2
          exact hK.out _ _ rfl hb2 nof
        refine steps2_cons ?_ ?_
        · as_aux_lemma =>
          intro f w1 hb hd Q hK
          have e62 : f 62 = .bool true := hd.1 rfl
          have e64 : f 64 = .bool true := hd.2.1 rfl
          clear hd
          simp only [e62, e64] at hK
          have hK := Lib.hid hK
          go_wp2
          exact hK.out _ _ rfl (.refl _ _) nof
        refine steps2_cons ?_ ?_
        · as_aux_lemma =>
          intro f w1 hb hd Q hK
          have e65 : f 65 = .bool true := hd.1 rfl
          clear hd
          simp only [e65] at hK
          have hK := Lib.hid hK
          go_wp2
          exact hK.out _ _ rfl (.refl _ _) nof
        trivial
      intro ff yw hb hf hne
      refine wpList_nil ?_
      have d0 : ff 0 = .bool true := hf 16 _ _ (by decide) rfl rfl
      clear hf hne
      simp only [d0]
      clear d0
      have hP := Lib.hid (hb0.trans (hb.mono hb0.size))
      clear hb hb0 k5
      go_wp2
      go_returns
      exact ⟨rfl, hP.out⟩
    · as_aux_lemma =>
      have hk1 : (k : Int) < 32 := by omega
      have hk0 : (0 : Int) ≤ (k : Int) := by omega
      have ck := hR8.out.cell k (by omega)
      rw [show Fe.bb k = 102 from by unfold Fe.bb; rw [if_neg (by omega)]] at ck
      clear hR8 k5 hb0 hE1 hCv he
      go_wp2
      go_roundw
      case rel => exact ⟨k + 1, by omega, by omega, by simp, trivial⟩
      case measure => simp [intOf]; omega
end Go.Proofs.YtigcobcpfmnhoaaDoor
